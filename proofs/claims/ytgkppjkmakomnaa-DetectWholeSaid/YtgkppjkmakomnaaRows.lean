/-
  No cell of these rows narrows 'for every input' (looked for: loops, veiled, ifaces, maps, wideKeys, modest, calm, conditions, laid).
  DERIVED. THE GIVEN ROWS OF THIS SEAT. 8 by the template 'for every input the law returns true; each argument reads behind the call as it read before'; 0 by the template 'total and deterministic' (their statements: YtgkppjkmakomnaaTotals.lean).
  GIVEN WITH THE SEED: the statements are not yours to turn. If you find one false, say at which input.
  Laid BY PROGRAM, IN A SANDBOX (cutbox-rows.mjs): the forced cells as the released guide's own fill.sh prints them over the translation 4e628c79324457e3… (all of the seat's roots in one cut). By AI agents, Wed Nov 11 2026. No macro, syntax, notation, axiom, sorry.
-/
import Derived.Test.YtgkppjkmakomnaaChecked
import GoSem.Claim
import GoSem.ClaimJoined
import GoSem.ClaimMapViews
import Derived.JoinedTies
import Derived.KernelRfl
namespace Go.Proofs.Ytgkppjkmakomnaa
/- THE CELL 'sum', in the pinned program and in every row, IS THE sha256 OF THE DUMP (.gsa) THAT YtgkppjkmakomnaaProg.lean LOADS. Nothing in Lean hashes anything: it is a label: what it is worth is what the hold of that sum in a sandbox is worth. -/
noncomputable def Try.pinned : Pinned := { name := "ytgkppjkmakomnaa", sum := "4e628c79324457e3bc3ce8082d9a3fae3b404e911447ca6425304066bb338fff", checked := Try.checked }
namespace Rows
def none {H : Type} : Left H := { results := [], args := [] }

/-- 'tollwaylaw13.DetectChecks': WHATEVER THE INPUT: true; the input reads as it did. -/
def detectChecksSpec : ChangeSpec := { name := "detectChecks", fn := fun _ => fun
  | [d1, d2] => { results := [.lit (.bool true)], args := [d1, d2] }
  | _ => none }
def detectChecksRow : OpenClaim := { program := "ytgkppjkmakomnaa", sum := "4e628c79324457e3bc3ce8082d9a3fae3b404e911447ca6425304066bb338fff", func := "tollway/tollwaylaw13.DetectChecks", spec := "detectChecks", unfollowed := true, recurses := true, plainKeys := false, apart := false }
def DetectChecksSaid : Prop := detectChecksRow.holds Try.pinned (OpenSpec.ofChange detectChecksSpec)

/-- ITS FALSE NEIGHBOUR: 'it returns false'. Refute it at one input. -/
def detectChecksWrong : ChangeSpec := { name := "detectChecks", fn := fun _ => fun
  | [d1, d2] => { results := [.lit (.bool false)], args := [d1, d2] }
  | _ => none }
def DetectChecksWrongFalsely : Prop := detectChecksRow.holds Try.pinned (OpenSpec.ofChange detectChecksWrong)

/-- 'tollwaylaw13.DetectOrders': WHATEVER THE INPUT: true; the input reads as it did. -/
def detectOrdersSpec : ChangeSpec := { name := "detectOrders", fn := fun _ => fun
  | [d1, d2] => { results := [.lit (.bool true)], args := [d1, d2] }
  | _ => none }
def detectOrdersRow : OpenClaim := { program := "ytgkppjkmakomnaa", sum := "4e628c79324457e3bc3ce8082d9a3fae3b404e911447ca6425304066bb338fff", func := "tollway/tollwaylaw13.DetectOrders", spec := "detectOrders", unfollowed := true, recurses := true, plainKeys := false, apart := false }
def DetectOrdersSaid : Prop := detectOrdersRow.holds Try.pinned (OpenSpec.ofChange detectOrdersSpec)

/-- ITS FALSE NEIGHBOUR: 'it returns false'. Refute it at one input. -/
def detectOrdersWrong : ChangeSpec := { name := "detectOrders", fn := fun _ => fun
  | [d1, d2] => { results := [.lit (.bool false)], args := [d1, d2] }
  | _ => none }
def DetectOrdersWrongFalsely : Prop := detectOrdersRow.holds Try.pinned (OpenSpec.ofChange detectOrdersWrong)

/-- 'tollwaylaw13.DetectTotal': WHATEVER THE INPUT: true; the input reads as it did. -/
def detectTotalSpec : ChangeSpec := { name := "detectTotal", fn := fun _ => fun
  | [d1, d2, d3] => { results := [.lit (.bool true)], args := [d1, d2, d3] }
  | _ => none }
def detectTotalRow : OpenClaim := { program := "ytgkppjkmakomnaa", sum := "4e628c79324457e3bc3ce8082d9a3fae3b404e911447ca6425304066bb338fff", func := "tollway/tollwaylaw13.DetectTotal", spec := "detectTotal", unfollowed := true, recurses := true, plainKeys := false, apart := false }
def DetectTotalSaid : Prop := detectTotalRow.holds Try.pinned (OpenSpec.ofChange detectTotalSpec)

/-- ITS FALSE NEIGHBOUR: 'it returns false'. Refute it at one input. -/
def detectTotalWrong : ChangeSpec := { name := "detectTotal", fn := fun _ => fun
  | [d1, d2, d3] => { results := [.lit (.bool false)], args := [d1, d2, d3] }
  | _ => none }
def DetectTotalWrongFalsely : Prop := detectTotalRow.holds Try.pinned (OpenSpec.ofChange detectTotalWrong)

/-- 'tollwaylaw13.DetectSifts': WHATEVER THE INPUT: true; the input reads as it did. -/
def detectSiftsSpec : ChangeSpec := { name := "detectSifts", fn := fun _ => fun
  | [d1, d2] => { results := [.lit (.bool true)], args := [d1, d2] }
  | _ => none }
def detectSiftsRow : OpenClaim := { program := "ytgkppjkmakomnaa", sum := "4e628c79324457e3bc3ce8082d9a3fae3b404e911447ca6425304066bb338fff", func := "tollway/tollwaylaw13.DetectSifts", spec := "detectSifts", unfollowed := true, recurses := true, plainKeys := false, apart := false }
def DetectSiftsSaid : Prop := detectSiftsRow.holds Try.pinned (OpenSpec.ofChange detectSiftsSpec)

/-- ITS FALSE NEIGHBOUR: 'it returns false'. Refute it at one input. -/
def detectSiftsWrong : ChangeSpec := { name := "detectSifts", fn := fun _ => fun
  | [d1, d2] => { results := [.lit (.bool false)], args := [d1, d2] }
  | _ => none }
def DetectSiftsWrongFalsely : Prop := detectSiftsRow.holds Try.pinned (OpenSpec.ofChange detectSiftsWrong)

/-- 'tollwaylaw13.DetectAdds': WHATEVER THE INPUT: true; the input reads as it did. -/
def detectAddsSpec : ChangeSpec := { name := "detectAdds", fn := fun _ => fun
  | [d1, d2, d3] => { results := [.lit (.bool true)], args := [d1, d2, d3] }
  | _ => none }
def detectAddsRow : OpenClaim := { program := "ytgkppjkmakomnaa", sum := "4e628c79324457e3bc3ce8082d9a3fae3b404e911447ca6425304066bb338fff", func := "tollway/tollwaylaw13.DetectAdds", spec := "detectAdds", unfollowed := true, recurses := true, plainKeys := false, apart := false }
def DetectAddsSaid : Prop := detectAddsRow.holds Try.pinned (OpenSpec.ofChange detectAddsSpec)

/-- ITS FALSE NEIGHBOUR: 'it returns false'. Refute it at one input. -/
def detectAddsWrong : ChangeSpec := { name := "detectAdds", fn := fun _ => fun
  | [d1, d2, d3] => { results := [.lit (.bool false)], args := [d1, d2, d3] }
  | _ => none }
def DetectAddsWrongFalsely : Prop := detectAddsRow.holds Try.pinned (OpenSpec.ofChange detectAddsWrong)

/-- 'tollwaylaw13.DetectAddsAny': WHATEVER THE INPUT: true; the input reads as it did. -/
def detectAddsAnySpec : ChangeSpec := { name := "detectAddsAny", fn := fun _ => fun
  | [d1, d2, d3] => { results := [.lit (.bool true)], args := [d1, d2, d3] }
  | _ => none }
def detectAddsAnyRow : OpenClaim := { program := "ytgkppjkmakomnaa", sum := "4e628c79324457e3bc3ce8082d9a3fae3b404e911447ca6425304066bb338fff", func := "tollway/tollwaylaw13.DetectAddsAny", spec := "detectAddsAny", unfollowed := true, recurses := true, plainKeys := false, apart := false }
def DetectAddsAnySaid : Prop := detectAddsAnyRow.holds Try.pinned (OpenSpec.ofChange detectAddsAnySpec)

/-- ITS FALSE NEIGHBOUR: 'it returns false'. Refute it at one input. -/
def detectAddsAnyWrong : ChangeSpec := { name := "detectAddsAny", fn := fun _ => fun
  | [d1, d2, d3] => { results := [.lit (.bool false)], args := [d1, d2, d3] }
  | _ => none }
def DetectAddsAnyWrongFalsely : Prop := detectAddsAnyRow.holds Try.pinned (OpenSpec.ofChange detectAddsAnyWrong)

/-- 'tollwaylaw13.DetectTurns': WHATEVER THE INPUT: true; the input reads as it did. -/
def detectTurnsSpec : ChangeSpec := { name := "detectTurns", fn := fun _ => fun
  | [d1, d2, d3] => { results := [.lit (.bool true)], args := [d1, d2, d3] }
  | _ => none }
def detectTurnsRow : OpenClaim := { program := "ytgkppjkmakomnaa", sum := "4e628c79324457e3bc3ce8082d9a3fae3b404e911447ca6425304066bb338fff", func := "tollway/tollwaylaw13.DetectTurns", spec := "detectTurns", unfollowed := true, recurses := true, plainKeys := false, apart := false }
def DetectTurnsSaid : Prop := detectTurnsRow.holds Try.pinned (OpenSpec.ofChange detectTurnsSpec)

/-- ITS FALSE NEIGHBOUR: 'it returns false'. Refute it at one input. -/
def detectTurnsWrong : ChangeSpec := { name := "detectTurns", fn := fun _ => fun
  | [d1, d2, d3] => { results := [.lit (.bool false)], args := [d1, d2, d3] }
  | _ => none }
def DetectTurnsWrongFalsely : Prop := detectTurnsRow.holds Try.pinned (OpenSpec.ofChange detectTurnsWrong)

/-- 'tollwaylaw13.DetectWhole': WHATEVER THE INPUT: true; the input reads as it did. -/
def detectWholeSpec : ChangeSpec := { name := "detectWhole", fn := fun _ => fun
  | [d1, d2] => { results := [.lit (.bool true)], args := [d1, d2] }
  | _ => none }
def detectWholeRow : OpenClaim := { program := "ytgkppjkmakomnaa", sum := "4e628c79324457e3bc3ce8082d9a3fae3b404e911447ca6425304066bb338fff", func := "tollway/tollwaylaw13.DetectWhole", spec := "detectWhole", unfollowed := true, recurses := true, plainKeys := false, apart := false }
def DetectWholeSaid : Prop := detectWholeRow.holds Try.pinned (OpenSpec.ofChange detectWholeSpec)

/-- ITS FALSE NEIGHBOUR: 'it returns false'. Refute it at one input. -/
def detectWholeWrong : ChangeSpec := { name := "detectWhole", fn := fun _ => fun
  | [d1, d2] => { results := [.lit (.bool false)], args := [d1, d2] }
  | _ => none }
def DetectWholeWrongFalsely : Prop := detectWholeRow.holds Try.pinned (OpenSpec.ofChange detectWholeWrong)

/- THE SECOND FORM. 'bulk': how many values and letters a reading holds, each counted each time it is reached (what is shared counts as often as it is met; a slice's spare places count too). A statement '..UptoSaid' is the law's where the arguments, and the package variables that the reading takes, are together of bulk at most 1048576: NARROWER than '..Said'. Prove '..Said' where nothing that the law and all that it calls make is longer than what came in: it says more and counts as full. Else prove '..UptoSaid'. A law counts once. -/
mutual
def uptoBulk {H : Type} : DataW H → Nat
  | .lit (.string bytes) => bytes.length + 1
  | .lit _ => 1
  | .nil => 1
  | .ptr d => uptoBulk d + 1
  | .slice elems spare => uptoBulkAll elems + uptoBulkAll spare + 1
  | .agg parts => uptoBulkAll parts + 1
  | .iface _ d => uptoBulk d + 1
  | .map entries => uptoBulkEntries entries + 1
  | .held _ => 1
def uptoBulkAll {H : Type} : List (DataW H) → Nat
  | [] => 0
  | d :: r => uptoBulk d + uptoBulkAll r
def uptoBulkEntries {H : Type} : List (Lit × DataW H) → Nat
  | [] => 0
  | x :: r => uptoBulkEntry x + uptoBulkEntries r
def uptoBulkEntry {H : Type} : Lit × DataW H → Nat
  | (.string bytes, d) => bytes.length + uptoBulk d + 1
  | (_, d) => uptoBulk d + 1
 end
def uptoSmall : (H : Type) → List (DataW H) → Bool := fun _ ds => decide (uptoBulkAll ds ≤ 1048576)
def OpenSpec.upto (s : _root_.Go.ChangeSpec) : _root_.Go.OpenSpec := { _root_.Go.OpenSpec.ofChange s with cond := some uptoSmall }

/-- 'tollwaylaw13.DetectChecks', WHERE WHAT IT READS IS OF BULK AT MOST 1048576: true; the input reads as it did. -/
def detectChecksUptoRow : OpenClaim := { program := "ytgkppjkmakomnaa", sum := "4e628c79324457e3bc3ce8082d9a3fae3b404e911447ca6425304066bb338fff", func := "tollway/tollwaylaw13.DetectChecks", spec := "detectChecks", unfollowed := true, recurses := true, plainKeys := false, apart := false, narrowed := true }
def DetectChecksUptoSaid : Prop := detectChecksUptoRow.holds Try.pinned (OpenSpec.upto detectChecksSpec)

/-- 'tollwaylaw13.DetectOrders', WHERE WHAT IT READS IS OF BULK AT MOST 1048576: true; the input reads as it did. -/
def detectOrdersUptoRow : OpenClaim := { program := "ytgkppjkmakomnaa", sum := "4e628c79324457e3bc3ce8082d9a3fae3b404e911447ca6425304066bb338fff", func := "tollway/tollwaylaw13.DetectOrders", spec := "detectOrders", unfollowed := true, recurses := true, plainKeys := false, apart := false, narrowed := true }
def DetectOrdersUptoSaid : Prop := detectOrdersUptoRow.holds Try.pinned (OpenSpec.upto detectOrdersSpec)

/-- 'tollwaylaw13.DetectTotal', WHERE WHAT IT READS IS OF BULK AT MOST 1048576: true; the input reads as it did. -/
def detectTotalUptoRow : OpenClaim := { program := "ytgkppjkmakomnaa", sum := "4e628c79324457e3bc3ce8082d9a3fae3b404e911447ca6425304066bb338fff", func := "tollway/tollwaylaw13.DetectTotal", spec := "detectTotal", unfollowed := true, recurses := true, plainKeys := false, apart := false, narrowed := true }
def DetectTotalUptoSaid : Prop := detectTotalUptoRow.holds Try.pinned (OpenSpec.upto detectTotalSpec)

/-- 'tollwaylaw13.DetectSifts', WHERE WHAT IT READS IS OF BULK AT MOST 1048576: true; the input reads as it did. -/
def detectSiftsUptoRow : OpenClaim := { program := "ytgkppjkmakomnaa", sum := "4e628c79324457e3bc3ce8082d9a3fae3b404e911447ca6425304066bb338fff", func := "tollway/tollwaylaw13.DetectSifts", spec := "detectSifts", unfollowed := true, recurses := true, plainKeys := false, apart := false, narrowed := true }
def DetectSiftsUptoSaid : Prop := detectSiftsUptoRow.holds Try.pinned (OpenSpec.upto detectSiftsSpec)

/-- 'tollwaylaw13.DetectAdds', WHERE WHAT IT READS IS OF BULK AT MOST 1048576: true; the input reads as it did. -/
def detectAddsUptoRow : OpenClaim := { program := "ytgkppjkmakomnaa", sum := "4e628c79324457e3bc3ce8082d9a3fae3b404e911447ca6425304066bb338fff", func := "tollway/tollwaylaw13.DetectAdds", spec := "detectAdds", unfollowed := true, recurses := true, plainKeys := false, apart := false, narrowed := true }
def DetectAddsUptoSaid : Prop := detectAddsUptoRow.holds Try.pinned (OpenSpec.upto detectAddsSpec)

/-- 'tollwaylaw13.DetectAddsAny', WHERE WHAT IT READS IS OF BULK AT MOST 1048576: true; the input reads as it did. -/
def detectAddsAnyUptoRow : OpenClaim := { program := "ytgkppjkmakomnaa", sum := "4e628c79324457e3bc3ce8082d9a3fae3b404e911447ca6425304066bb338fff", func := "tollway/tollwaylaw13.DetectAddsAny", spec := "detectAddsAny", unfollowed := true, recurses := true, plainKeys := false, apart := false, narrowed := true }
def DetectAddsAnyUptoSaid : Prop := detectAddsAnyUptoRow.holds Try.pinned (OpenSpec.upto detectAddsAnySpec)

/-- 'tollwaylaw13.DetectTurns', WHERE WHAT IT READS IS OF BULK AT MOST 1048576: true; the input reads as it did. -/
def detectTurnsUptoRow : OpenClaim := { program := "ytgkppjkmakomnaa", sum := "4e628c79324457e3bc3ce8082d9a3fae3b404e911447ca6425304066bb338fff", func := "tollway/tollwaylaw13.DetectTurns", spec := "detectTurns", unfollowed := true, recurses := true, plainKeys := false, apart := false, narrowed := true }
def DetectTurnsUptoSaid : Prop := detectTurnsUptoRow.holds Try.pinned (OpenSpec.upto detectTurnsSpec)

/-- 'tollwaylaw13.DetectWhole', WHERE WHAT IT READS IS OF BULK AT MOST 1048576: true; the input reads as it did. -/
def detectWholeUptoRow : OpenClaim := { program := "ytgkppjkmakomnaa", sum := "4e628c79324457e3bc3ce8082d9a3fae3b404e911447ca6425304066bb338fff", func := "tollway/tollwaylaw13.DetectWhole", spec := "detectWhole", unfollowed := true, recurses := true, plainKeys := false, apart := false, narrowed := true }
def DetectWholeUptoSaid : Prop := detectWholeUptoRow.holds Try.pinned (OpenSpec.upto detectWholeSpec)

end Rows
end Go.Proofs.Ytgkppjkmakomnaa
