/-
  No cell of these rows narrows 'for every input' (looked for: loops, veiled, ifaces, maps, wideKeys, modest, calm, conditions, laid).
  DERIVED. THE GIVEN ROWS OF THIS SEAT. 7 by the template 'for every input the law returns true; each argument reads behind the call as it read before'; 0 by the template 'total and deterministic' (their statements: YtfilfdkbchkpmaaTotals.lean).
  GIVEN WITH THE SEED: the statements are not yours to turn. If you find one false, say at which input.
  Laid BY PROGRAM, IN A SANDBOX (cutbox-rows.mjs): the forced cells as the released guide's own fill.sh prints them over the translation be19312b93f71e24… (all of the seat's roots in one cut). By AI agents, Wed Nov 11 2026. No macro, syntax, notation, axiom, sorry.
-/
import Derived.Test.YtfilfdkbchkpmaaChecked
import GoSem.Claim
import GoSem.ClaimJoined
import GoSem.ClaimMapViews
import Derived.JoinedTies
import Derived.KernelRfl
namespace Go.Proofs.Ytfilfdkbchkpmaa
/- THE CELL 'sum', in the pinned program and in every row, IS THE sha256 OF THE DUMP (.gsa) THAT YtfilfdkbchkpmaaProg.lean LOADS. Nothing in Lean hashes anything: it is a label: what it is worth is what the hold of that sum in a sandbox is worth. -/
noncomputable def Try.pinned : Pinned := { name := "ytfilfdkbchkpmaa", sum := "be19312b93f71e24ab1d6afaf7dd0dd598aeb9782eebf10fec7fdc10c471429c", checked := Try.checked }
namespace Rows
def none {H : Type} : Left H := { results := [], args := [] }

/-- 'tollwaylaw28.ParkfeeSteps': WHATEVER THE INPUT: true; the input reads as it did. -/
def parkfeeStepsSpec : ChangeSpec := { name := "parkfeeSteps", fn := fun _ => fun
  | [d1, d2] => { results := [.lit (.bool true)], args := [d1, d2] }
  | _ => none }
def parkfeeStepsRow : OpenClaim := { program := "ytfilfdkbchkpmaa", sum := "be19312b93f71e24ab1d6afaf7dd0dd598aeb9782eebf10fec7fdc10c471429c", func := "tollway/tollwaylaw28.ParkfeeSteps", spec := "parkfeeSteps", unfollowed := true, recurses := true, named := ["math/bits.divideError", "math/bits.overflowError"], apart := false }
def ParkfeeStepsSaid : Prop := parkfeeStepsRow.holds Try.pinned (OpenSpec.ofChange parkfeeStepsSpec)

/-- ITS FALSE NEIGHBOUR: 'it returns false'. Refute it at one input. -/
def parkfeeStepsWrong : ChangeSpec := { name := "parkfeeSteps", fn := fun _ => fun
  | [d1, d2] => { results := [.lit (.bool false)], args := [d1, d2] }
  | _ => none }
def ParkfeeStepsWrongFalsely : Prop := parkfeeStepsRow.holds Try.pinned (OpenSpec.ofChange parkfeeStepsWrong)

/-- 'tollwaylaw28.ParkfeeDays': WHATEVER THE INPUT: true; the input reads as it did. -/
def parkfeeDaysSpec : ChangeSpec := { name := "parkfeeDays", fn := fun _ => fun
  | [d1, d2] => { results := [.lit (.bool true)], args := [d1, d2] }
  | _ => none }
def parkfeeDaysRow : OpenClaim := { program := "ytfilfdkbchkpmaa", sum := "be19312b93f71e24ab1d6afaf7dd0dd598aeb9782eebf10fec7fdc10c471429c", func := "tollway/tollwaylaw28.ParkfeeDays", spec := "parkfeeDays", unfollowed := true, recurses := true, named := ["math/bits.divideError", "math/bits.overflowError"], apart := false }
def ParkfeeDaysSaid : Prop := parkfeeDaysRow.holds Try.pinned (OpenSpec.ofChange parkfeeDaysSpec)

/-- ITS FALSE NEIGHBOUR: 'it returns false'. Refute it at one input. -/
def parkfeeDaysWrong : ChangeSpec := { name := "parkfeeDays", fn := fun _ => fun
  | [d1, d2] => { results := [.lit (.bool false)], args := [d1, d2] }
  | _ => none }
def ParkfeeDaysWrongFalsely : Prop := parkfeeDaysRow.holds Try.pinned (OpenSpec.ofChange parkfeeDaysWrong)

/-- 'tollwaylaw28.ParkfeeLongest': WHATEVER THE INPUT: true; the input reads as it did. -/
def parkfeeLongestSpec : ChangeSpec := { name := "parkfeeLongest", fn := fun _ => fun
  | [d1, d2, d3] => { results := [.lit (.bool true)], args := [d1, d2, d3] }
  | _ => none }
def parkfeeLongestRow : OpenClaim := { program := "ytfilfdkbchkpmaa", sum := "be19312b93f71e24ab1d6afaf7dd0dd598aeb9782eebf10fec7fdc10c471429c", func := "tollway/tollwaylaw28.ParkfeeLongest", spec := "parkfeeLongest", unfollowed := true, recurses := true, named := ["math/bits.divideError", "math/bits.overflowError"], apart := false }
def ParkfeeLongestSaid : Prop := parkfeeLongestRow.holds Try.pinned (OpenSpec.ofChange parkfeeLongestSpec)

/-- ITS FALSE NEIGHBOUR: 'it returns false'. Refute it at one input. -/
def parkfeeLongestWrong : ChangeSpec := { name := "parkfeeLongest", fn := fun _ => fun
  | [d1, d2, d3] => { results := [.lit (.bool false)], args := [d1, d2, d3] }
  | _ => none }
def ParkfeeLongestWrongFalsely : Prop := parkfeeLongestRow.holds Try.pinned (OpenSpec.ofChange parkfeeLongestWrong)

/-- 'tollwaylaw28.ParkfeeRefunds': WHATEVER THE INPUT: true; the input reads as it did. -/
def parkfeeRefundsSpec : ChangeSpec := { name := "parkfeeRefunds", fn := fun _ => fun
  | [d1, d2, d3] => { results := [.lit (.bool true)], args := [d1, d2, d3] }
  | _ => none }
def parkfeeRefundsRow : OpenClaim := { program := "ytfilfdkbchkpmaa", sum := "be19312b93f71e24ab1d6afaf7dd0dd598aeb9782eebf10fec7fdc10c471429c", func := "tollway/tollwaylaw28.ParkfeeRefunds", spec := "parkfeeRefunds", unfollowed := true, recurses := true, named := ["math/bits.divideError", "math/bits.overflowError"], apart := false }
def ParkfeeRefundsSaid : Prop := parkfeeRefundsRow.holds Try.pinned (OpenSpec.ofChange parkfeeRefundsSpec)

/-- ITS FALSE NEIGHBOUR: 'it returns false'. Refute it at one input. -/
def parkfeeRefundsWrong : ChangeSpec := { name := "parkfeeRefunds", fn := fun _ => fun
  | [d1, d2, d3] => { results := [.lit (.bool false)], args := [d1, d2, d3] }
  | _ => none }
def ParkfeeRefundsWrongFalsely : Prop := parkfeeRefundsRow.holds Try.pinned (OpenSpec.ofChange parkfeeRefundsWrong)

/-- 'tollwaylaw28.ParkfeeMore': WHATEVER THE INPUT: true; the input reads as it did. -/
def parkfeeMoreSpec : ChangeSpec := { name := "parkfeeMore", fn := fun _ => fun
  | [d1, d2, d3] => { results := [.lit (.bool true)], args := [d1, d2, d3] }
  | _ => none }
def parkfeeMoreRow : OpenClaim := { program := "ytfilfdkbchkpmaa", sum := "be19312b93f71e24ab1d6afaf7dd0dd598aeb9782eebf10fec7fdc10c471429c", func := "tollway/tollwaylaw28.ParkfeeMore", spec := "parkfeeMore", unfollowed := true, recurses := true, named := ["math/bits.divideError", "math/bits.overflowError"], apart := false }
def ParkfeeMoreSaid : Prop := parkfeeMoreRow.holds Try.pinned (OpenSpec.ofChange parkfeeMoreSpec)

/-- ITS FALSE NEIGHBOUR: 'it returns false'. Refute it at one input. -/
def parkfeeMoreWrong : ChangeSpec := { name := "parkfeeMore", fn := fun _ => fun
  | [d1, d2, d3] => { results := [.lit (.bool false)], args := [d1, d2, d3] }
  | _ => none }
def ParkfeeMoreWrongFalsely : Prop := parkfeeMoreRow.holds Try.pinned (OpenSpec.ofChange parkfeeMoreWrong)

/-- 'tollwaylaw28.ParkfeeAdds': WHATEVER THE INPUT: true; the input reads as it did. -/
def parkfeeAddsSpec : ChangeSpec := { name := "parkfeeAdds", fn := fun _ => fun
  | [d1, d2] => { results := [.lit (.bool true)], args := [d1, d2] }
  | _ => none }
def parkfeeAddsRow : OpenClaim := { program := "ytfilfdkbchkpmaa", sum := "be19312b93f71e24ab1d6afaf7dd0dd598aeb9782eebf10fec7fdc10c471429c", func := "tollway/tollwaylaw28.ParkfeeAdds", spec := "parkfeeAdds", unfollowed := true, recurses := true, named := ["math/bits.divideError", "math/bits.overflowError"], apart := false }
def ParkfeeAddsSaid : Prop := parkfeeAddsRow.holds Try.pinned (OpenSpec.ofChange parkfeeAddsSpec)

/-- ITS FALSE NEIGHBOUR: 'it returns false'. Refute it at one input. -/
def parkfeeAddsWrong : ChangeSpec := { name := "parkfeeAdds", fn := fun _ => fun
  | [d1, d2] => { results := [.lit (.bool false)], args := [d1, d2] }
  | _ => none }
def ParkfeeAddsWrongFalsely : Prop := parkfeeAddsRow.holds Try.pinned (OpenSpec.ofChange parkfeeAddsWrong)

/-- 'tollwaylaw28.ParkfeeEnough': WHATEVER THE INPUT: true; the input reads as it did. -/
def parkfeeEnoughSpec : ChangeSpec := { name := "parkfeeEnough", fn := fun _ => fun
  | [d1, d2, d3] => { results := [.lit (.bool true)], args := [d1, d2, d3] }
  | _ => none }
def parkfeeEnoughRow : OpenClaim := { program := "ytfilfdkbchkpmaa", sum := "be19312b93f71e24ab1d6afaf7dd0dd598aeb9782eebf10fec7fdc10c471429c", func := "tollway/tollwaylaw28.ParkfeeEnough", spec := "parkfeeEnough", unfollowed := true, recurses := true, named := ["math/bits.divideError", "math/bits.overflowError"], apart := false }
def ParkfeeEnoughSaid : Prop := parkfeeEnoughRow.holds Try.pinned (OpenSpec.ofChange parkfeeEnoughSpec)

/-- ITS FALSE NEIGHBOUR: 'it returns false'. Refute it at one input. -/
def parkfeeEnoughWrong : ChangeSpec := { name := "parkfeeEnough", fn := fun _ => fun
  | [d1, d2, d3] => { results := [.lit (.bool false)], args := [d1, d2, d3] }
  | _ => none }
def ParkfeeEnoughWrongFalsely : Prop := parkfeeEnoughRow.holds Try.pinned (OpenSpec.ofChange parkfeeEnoughWrong)

/- THE SECOND FORM. 'bulk': how many values and letters a reading holds, each counted each time it is reached (what is shared counts as often as it is met; a slice's spare places count too). A statement '..UptoSaid' is the law's where the arguments, and the package variables that the reading takes, are together of bulk at most 1048576: NARROWER than '..Said'. Prove '..Said' where nothing that the law and all that it calls make is longer than what came in: it says more and counts as full. Else prove '..UptoSaid'. A law counts once. -/
mutual
def uptoBulk {H : Type} : DataW H → Nat
  | .lit (.string bytes) => bytes.length + 1
  | .lit _ => 1
  | .nil => 1
  | .ptr d => uptoBulk d + 1
  | .slice elems spare => uptoBulkAll elems + uptoBulkAll spare + 1
  | .agg parts => uptoBulkAll parts + 1
  | .iface _ d => uptoBulk d + 1
  | .map entries => uptoBulkEntries entries + 1
  | .held _ => 1
def uptoBulkAll {H : Type} : List (DataW H) → Nat
  | [] => 0
  | d :: r => uptoBulk d + uptoBulkAll r
def uptoBulkEntries {H : Type} : List (Lit × DataW H) → Nat
  | [] => 0
  | x :: r => uptoBulkEntry x + uptoBulkEntries r
def uptoBulkEntry {H : Type} : Lit × DataW H → Nat
  | (.string bytes, d) => bytes.length + uptoBulk d + 1
  | (_, d) => uptoBulk d + 1
 end
def uptoSmall : (H : Type) → List (DataW H) → Bool := fun _ ds => decide (uptoBulkAll ds ≤ 1048576)
def OpenSpec.upto (s : _root_.Go.ChangeSpec) : _root_.Go.OpenSpec := { _root_.Go.OpenSpec.ofChange s with cond := some uptoSmall }

/-- 'tollwaylaw28.ParkfeeSteps', WHERE WHAT IT READS IS OF BULK AT MOST 1048576: true; the input reads as it did. -/
def parkfeeStepsUptoRow : OpenClaim := { program := "ytfilfdkbchkpmaa", sum := "be19312b93f71e24ab1d6afaf7dd0dd598aeb9782eebf10fec7fdc10c471429c", func := "tollway/tollwaylaw28.ParkfeeSteps", spec := "parkfeeSteps", unfollowed := true, recurses := true, named := ["math/bits.divideError", "math/bits.overflowError"], apart := false, narrowed := true }
def ParkfeeStepsUptoSaid : Prop := parkfeeStepsUptoRow.holds Try.pinned (OpenSpec.upto parkfeeStepsSpec)

/-- 'tollwaylaw28.ParkfeeDays', WHERE WHAT IT READS IS OF BULK AT MOST 1048576: true; the input reads as it did. -/
def parkfeeDaysUptoRow : OpenClaim := { program := "ytfilfdkbchkpmaa", sum := "be19312b93f71e24ab1d6afaf7dd0dd598aeb9782eebf10fec7fdc10c471429c", func := "tollway/tollwaylaw28.ParkfeeDays", spec := "parkfeeDays", unfollowed := true, recurses := true, named := ["math/bits.divideError", "math/bits.overflowError"], apart := false, narrowed := true }
def ParkfeeDaysUptoSaid : Prop := parkfeeDaysUptoRow.holds Try.pinned (OpenSpec.upto parkfeeDaysSpec)

/-- 'tollwaylaw28.ParkfeeLongest', WHERE WHAT IT READS IS OF BULK AT MOST 1048576: true; the input reads as it did. -/
def parkfeeLongestUptoRow : OpenClaim := { program := "ytfilfdkbchkpmaa", sum := "be19312b93f71e24ab1d6afaf7dd0dd598aeb9782eebf10fec7fdc10c471429c", func := "tollway/tollwaylaw28.ParkfeeLongest", spec := "parkfeeLongest", unfollowed := true, recurses := true, named := ["math/bits.divideError", "math/bits.overflowError"], apart := false, narrowed := true }
def ParkfeeLongestUptoSaid : Prop := parkfeeLongestUptoRow.holds Try.pinned (OpenSpec.upto parkfeeLongestSpec)

/-- 'tollwaylaw28.ParkfeeRefunds', WHERE WHAT IT READS IS OF BULK AT MOST 1048576: true; the input reads as it did. -/
def parkfeeRefundsUptoRow : OpenClaim := { program := "ytfilfdkbchkpmaa", sum := "be19312b93f71e24ab1d6afaf7dd0dd598aeb9782eebf10fec7fdc10c471429c", func := "tollway/tollwaylaw28.ParkfeeRefunds", spec := "parkfeeRefunds", unfollowed := true, recurses := true, named := ["math/bits.divideError", "math/bits.overflowError"], apart := false, narrowed := true }
def ParkfeeRefundsUptoSaid : Prop := parkfeeRefundsUptoRow.holds Try.pinned (OpenSpec.upto parkfeeRefundsSpec)

/-- 'tollwaylaw28.ParkfeeMore', WHERE WHAT IT READS IS OF BULK AT MOST 1048576: true; the input reads as it did. -/
def parkfeeMoreUptoRow : OpenClaim := { program := "ytfilfdkbchkpmaa", sum := "be19312b93f71e24ab1d6afaf7dd0dd598aeb9782eebf10fec7fdc10c471429c", func := "tollway/tollwaylaw28.ParkfeeMore", spec := "parkfeeMore", unfollowed := true, recurses := true, named := ["math/bits.divideError", "math/bits.overflowError"], apart := false, narrowed := true }
def ParkfeeMoreUptoSaid : Prop := parkfeeMoreUptoRow.holds Try.pinned (OpenSpec.upto parkfeeMoreSpec)

/-- 'tollwaylaw28.ParkfeeAdds', WHERE WHAT IT READS IS OF BULK AT MOST 1048576: true; the input reads as it did. -/
def parkfeeAddsUptoRow : OpenClaim := { program := "ytfilfdkbchkpmaa", sum := "be19312b93f71e24ab1d6afaf7dd0dd598aeb9782eebf10fec7fdc10c471429c", func := "tollway/tollwaylaw28.ParkfeeAdds", spec := "parkfeeAdds", unfollowed := true, recurses := true, named := ["math/bits.divideError", "math/bits.overflowError"], apart := false, narrowed := true }
def ParkfeeAddsUptoSaid : Prop := parkfeeAddsUptoRow.holds Try.pinned (OpenSpec.upto parkfeeAddsSpec)

/-- 'tollwaylaw28.ParkfeeEnough', WHERE WHAT IT READS IS OF BULK AT MOST 1048576: true; the input reads as it did. -/
def parkfeeEnoughUptoRow : OpenClaim := { program := "ytfilfdkbchkpmaa", sum := "be19312b93f71e24ab1d6afaf7dd0dd598aeb9782eebf10fec7fdc10c471429c", func := "tollway/tollwaylaw28.ParkfeeEnough", spec := "parkfeeEnough", unfollowed := true, recurses := true, named := ["math/bits.divideError", "math/bits.overflowError"], apart := false, narrowed := true }
def ParkfeeEnoughUptoSaid : Prop := parkfeeEnoughUptoRow.holds Try.pinned (OpenSpec.upto parkfeeEnoughSpec)

end Rows
end Go.Proofs.Ytfilfdkbchkpmaa
