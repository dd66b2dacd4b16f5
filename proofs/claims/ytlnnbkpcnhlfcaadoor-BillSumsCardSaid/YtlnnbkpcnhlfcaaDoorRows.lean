/-
  NARROWER THAN 'FOR EVERY INPUT', by the rows' own cells (each row's printed sentence says how): BillMonths: laid · BillEarlier: laid · BillCapped: laid · BillTotals: laid · BillDays: laid · BillKeeps: laid · BillAgain: laid · BillOnce: laid · BillSums: laid.
  DERIVED. THE GIVEN ROWS OF THIS SEAT. 9 by the template 'for every input the law returns true; each argument reads behind the call as it read before'; 0 by the template 'total and deterministic' (their statements: YtlnnbkpcnhlfcaaDoorTotals.lean).
  GIVEN WITH THE SEED: the statements are not yours to turn. If you find one false, say at which input.
  Laid BY PROGRAM, IN A SANDBOX (cutbox-rows.mjs): the forced cells as the released guide's own fill.sh prints them over the translation 206da7e32cf7f747… (all of the seat's roots in one cut). By AI agents, Wed Nov 11 2026. No macro, syntax, notation, axiom, sorry.
-/
import Derived.Test.YtlnnbkpcnhlfcaaDoorChecked
import GoSem.Claim
import GoSem.ClaimJoined
import GoSem.ClaimMapViews
import Derived.JoinedTies
import Derived.KernelRfl
namespace Go.Proofs.YtlnnbkpcnhlfcaaDoor
/- THE CELL 'sum', in the pinned program and in every row, IS THE sha256 OF THE DUMP (.gsa) THAT YtlnnbkpcnhlfcaaDoorProg.lean LOADS. Nothing in Lean hashes anything: it is a label: what it is worth is what the hold of that sum in a sandbox is worth. -/
noncomputable def Tryd.pinned : Pinned := { name := "ytlnnbkpcnhlfcaadoor", sum := "206da7e32cf7f7471b8b84834b4fcbd4e5826f32f57136be53f74912ca7905b0", checked := Tryd.checked }
namespace Rows
def none {H : Type} : Left H := { results := [], args := [] }

/- WHAT THE LISTED PACKAGE-LEVEL VARIABLES READ AS WHEN THE CALL BEGINS. Each datum BY PROGRAM (the guide's laid-datum.mjs) off the statement by which the dump's own 'gosem.cut.vars' lays the variable. In a bare row this is a premise. The card (YtlnnbkpcnhlfcaaDoorCards.lean) ties it to the program's text. -/
def laid_tollway_clock_months {H : Type} : DataW H := .agg [.lit (.int .i64 31), .lit (.int .i64 28), .lit (.int .i64 31), .lit (.int .i64 30), .lit (.int .i64 31), .lit (.int .i64 30), .lit (.int .i64 31), .lit (.int .i64 31), .lit (.int .i64 30), .lit (.int .i64 31), .lit (.int .i64 30), .lit (.int .i64 31)]

/-- 'tollwaylaw34.BillMonths': WHATEVER THE INPUT: true; the input reads as it did. -/
def billMonthsSpec : ChangeSpec := { name := "billMonths", fn := fun _ => fun
  | [d] => { results := [.lit (.bool true)], args := [d] }
  | _ => none }
def billMonthsRow : OpenClaim := { program := "ytlnnbkpcnhlfcaadoor", sum := "206da7e32cf7f7471b8b84834b4fcbd4e5826f32f57136be53f74912ca7905b0", func := "tollway/tollwaylaw34.BillMonths", spec := "billMonths", unfollowed := true, recurses := true, named := ["tollway/clock.months"], plainKeys := false, apart := false, laid := [("tollway/clock.months", laid_tollway_clock_months)] }
def BillMonthsSaid : Prop := billMonthsRow.holds Tryd.pinned (OpenSpec.ofChange billMonthsSpec)

/-- ITS FALSE NEIGHBOUR: 'it returns false'. Refute it at one input. -/
def billMonthsWrong : ChangeSpec := { name := "billMonths", fn := fun _ => fun
  | [d] => { results := [.lit (.bool false)], args := [d] }
  | _ => none }
def BillMonthsWrongFalsely : Prop := billMonthsRow.holds Tryd.pinned (OpenSpec.ofChange billMonthsWrong)

/-- 'tollwaylaw34.BillEarlier': WHATEVER THE INPUT: true; the input reads as it did. -/
def billEarlierSpec : ChangeSpec := { name := "billEarlier", fn := fun _ => fun
  | [d1, d2] => { results := [.lit (.bool true)], args := [d1, d2] }
  | _ => none }
def billEarlierRow : OpenClaim := { program := "ytlnnbkpcnhlfcaadoor", sum := "206da7e32cf7f7471b8b84834b4fcbd4e5826f32f57136be53f74912ca7905b0", func := "tollway/tollwaylaw34.BillEarlier", spec := "billEarlier", unfollowed := true, recurses := true, named := ["tollway/clock.months"], plainKeys := false, apart := false, laid := [("tollway/clock.months", laid_tollway_clock_months)] }
def BillEarlierSaid : Prop := billEarlierRow.holds Tryd.pinned (OpenSpec.ofChange billEarlierSpec)

/-- ITS FALSE NEIGHBOUR: 'it returns false'. Refute it at one input. -/
def billEarlierWrong : ChangeSpec := { name := "billEarlier", fn := fun _ => fun
  | [d1, d2] => { results := [.lit (.bool false)], args := [d1, d2] }
  | _ => none }
def BillEarlierWrongFalsely : Prop := billEarlierRow.holds Tryd.pinned (OpenSpec.ofChange billEarlierWrong)

/-- 'tollwaylaw34.BillCapped': WHATEVER THE INPUT: true; the input reads as it did. -/
def billCappedSpec : ChangeSpec := { name := "billCapped", fn := fun _ => fun
  | [d] => { results := [.lit (.bool true)], args := [d] }
  | _ => none }
def billCappedRow : OpenClaim := { program := "ytlnnbkpcnhlfcaadoor", sum := "206da7e32cf7f7471b8b84834b4fcbd4e5826f32f57136be53f74912ca7905b0", func := "tollway/tollwaylaw34.BillCapped", spec := "billCapped", unfollowed := true, recurses := true, named := ["tollway/clock.months"], plainKeys := false, apart := false, laid := [("tollway/clock.months", laid_tollway_clock_months)] }
def BillCappedSaid : Prop := billCappedRow.holds Tryd.pinned (OpenSpec.ofChange billCappedSpec)

/-- ITS FALSE NEIGHBOUR: 'it returns false'. Refute it at one input. -/
def billCappedWrong : ChangeSpec := { name := "billCapped", fn := fun _ => fun
  | [d] => { results := [.lit (.bool false)], args := [d] }
  | _ => none }
def BillCappedWrongFalsely : Prop := billCappedRow.holds Tryd.pinned (OpenSpec.ofChange billCappedWrong)

/-- 'tollwaylaw34.BillTotals': WHATEVER THE INPUT: true; the input reads as it did. -/
def billTotalsSpec : ChangeSpec := { name := "billTotals", fn := fun _ => fun
  | [d1, d2, d3] => { results := [.lit (.bool true)], args := [d1, d2, d3] }
  | _ => none }
def billTotalsRow : OpenClaim := { program := "ytlnnbkpcnhlfcaadoor", sum := "206da7e32cf7f7471b8b84834b4fcbd4e5826f32f57136be53f74912ca7905b0", func := "tollway/tollwaylaw34.BillTotals", spec := "billTotals", unfollowed := true, recurses := true, named := ["tollway/clock.months"], plainKeys := false, apart := false, laid := [("tollway/clock.months", laid_tollway_clock_months)] }
def BillTotalsSaid : Prop := billTotalsRow.holds Tryd.pinned (OpenSpec.ofChange billTotalsSpec)

/-- ITS FALSE NEIGHBOUR: 'it returns false'. Refute it at one input. -/
def billTotalsWrong : ChangeSpec := { name := "billTotals", fn := fun _ => fun
  | [d1, d2, d3] => { results := [.lit (.bool false)], args := [d1, d2, d3] }
  | _ => none }
def BillTotalsWrongFalsely : Prop := billTotalsRow.holds Tryd.pinned (OpenSpec.ofChange billTotalsWrong)

/-- 'tollwaylaw34.BillDays': WHATEVER THE INPUT: true; the input reads as it did. -/
def billDaysSpec : ChangeSpec := { name := "billDays", fn := fun _ => fun
  | [d] => { results := [.lit (.bool true)], args := [d] }
  | _ => none }
def billDaysRow : OpenClaim := { program := "ytlnnbkpcnhlfcaadoor", sum := "206da7e32cf7f7471b8b84834b4fcbd4e5826f32f57136be53f74912ca7905b0", func := "tollway/tollwaylaw34.BillDays", spec := "billDays", unfollowed := true, recurses := true, named := ["tollway/clock.months"], plainKeys := false, apart := false, laid := [("tollway/clock.months", laid_tollway_clock_months)] }
def BillDaysSaid : Prop := billDaysRow.holds Tryd.pinned (OpenSpec.ofChange billDaysSpec)

/-- ITS FALSE NEIGHBOUR: 'it returns false'. Refute it at one input. -/
def billDaysWrong : ChangeSpec := { name := "billDays", fn := fun _ => fun
  | [d] => { results := [.lit (.bool false)], args := [d] }
  | _ => none }
def BillDaysWrongFalsely : Prop := billDaysRow.holds Tryd.pinned (OpenSpec.ofChange billDaysWrong)

/-- 'tollwaylaw34.BillKeeps': WHATEVER THE INPUT: true; the input reads as it did. -/
def billKeepsSpec : ChangeSpec := { name := "billKeeps", fn := fun _ => fun
  | [d] => { results := [.lit (.bool true)], args := [d] }
  | _ => none }
def billKeepsRow : OpenClaim := { program := "ytlnnbkpcnhlfcaadoor", sum := "206da7e32cf7f7471b8b84834b4fcbd4e5826f32f57136be53f74912ca7905b0", func := "tollway/tollwaylaw34.BillKeeps", spec := "billKeeps", unfollowed := true, recurses := true, named := ["tollway/clock.months"], plainKeys := false, apart := false, laid := [("tollway/clock.months", laid_tollway_clock_months)] }
def BillKeepsSaid : Prop := billKeepsRow.holds Tryd.pinned (OpenSpec.ofChange billKeepsSpec)

/-- ITS FALSE NEIGHBOUR: 'it returns false'. Refute it at one input. -/
def billKeepsWrong : ChangeSpec := { name := "billKeeps", fn := fun _ => fun
  | [d] => { results := [.lit (.bool false)], args := [d] }
  | _ => none }
def BillKeepsWrongFalsely : Prop := billKeepsRow.holds Tryd.pinned (OpenSpec.ofChange billKeepsWrong)

/-- 'tollwaylaw34.BillAgain': WHATEVER THE INPUT: true; the input reads as it did. -/
def billAgainSpec : ChangeSpec := { name := "billAgain", fn := fun _ => fun
  | [d] => { results := [.lit (.bool true)], args := [d] }
  | _ => none }
def billAgainRow : OpenClaim := { program := "ytlnnbkpcnhlfcaadoor", sum := "206da7e32cf7f7471b8b84834b4fcbd4e5826f32f57136be53f74912ca7905b0", func := "tollway/tollwaylaw34.BillAgain", spec := "billAgain", unfollowed := true, recurses := true, named := ["tollway/clock.months"], plainKeys := false, apart := false, laid := [("tollway/clock.months", laid_tollway_clock_months)] }
def BillAgainSaid : Prop := billAgainRow.holds Tryd.pinned (OpenSpec.ofChange billAgainSpec)

/-- ITS FALSE NEIGHBOUR: 'it returns false'. Refute it at one input. -/
def billAgainWrong : ChangeSpec := { name := "billAgain", fn := fun _ => fun
  | [d] => { results := [.lit (.bool false)], args := [d] }
  | _ => none }
def BillAgainWrongFalsely : Prop := billAgainRow.holds Tryd.pinned (OpenSpec.ofChange billAgainWrong)

/-- 'tollwaylaw34.BillOnce': WHATEVER THE INPUT: true; the input reads as it did. -/
def billOnceSpec : ChangeSpec := { name := "billOnce", fn := fun _ => fun
  | [d] => { results := [.lit (.bool true)], args := [d] }
  | _ => none }
def billOnceRow : OpenClaim := { program := "ytlnnbkpcnhlfcaadoor", sum := "206da7e32cf7f7471b8b84834b4fcbd4e5826f32f57136be53f74912ca7905b0", func := "tollway/tollwaylaw34.BillOnce", spec := "billOnce", unfollowed := true, recurses := true, named := ["tollway/clock.months"], plainKeys := false, apart := false, laid := [("tollway/clock.months", laid_tollway_clock_months)] }
def BillOnceSaid : Prop := billOnceRow.holds Tryd.pinned (OpenSpec.ofChange billOnceSpec)

/-- ITS FALSE NEIGHBOUR: 'it returns false'. Refute it at one input. -/
def billOnceWrong : ChangeSpec := { name := "billOnce", fn := fun _ => fun
  | [d] => { results := [.lit (.bool false)], args := [d] }
  | _ => none }
def BillOnceWrongFalsely : Prop := billOnceRow.holds Tryd.pinned (OpenSpec.ofChange billOnceWrong)

/-- 'tollwaylaw34.BillSums': WHATEVER THE INPUT: true; the input reads as it did. -/
def billSumsSpec : ChangeSpec := { name := "billSums", fn := fun _ => fun
  | [d] => { results := [.lit (.bool true)], args := [d] }
  | _ => none }
def billSumsRow : OpenClaim := { program := "ytlnnbkpcnhlfcaadoor", sum := "206da7e32cf7f7471b8b84834b4fcbd4e5826f32f57136be53f74912ca7905b0", func := "tollway/tollwaylaw34.BillSums", spec := "billSums", unfollowed := true, recurses := true, named := ["tollway/clock.months"], plainKeys := false, apart := false, laid := [("tollway/clock.months", laid_tollway_clock_months)] }
def BillSumsSaid : Prop := billSumsRow.holds Tryd.pinned (OpenSpec.ofChange billSumsSpec)

/-- ITS FALSE NEIGHBOUR: 'it returns false'. Refute it at one input. -/
def billSumsWrong : ChangeSpec := { name := "billSums", fn := fun _ => fun
  | [d] => { results := [.lit (.bool false)], args := [d] }
  | _ => none }
def BillSumsWrongFalsely : Prop := billSumsRow.holds Tryd.pinned (OpenSpec.ofChange billSumsWrong)

/- THE SECOND FORM. 'bulk': how many values and letters a reading holds, each counted each time it is reached (what is shared counts as often as it is met; a slice's spare places count too). A statement '..UptoSaid' is the law's where the arguments, and the package variables that the reading takes, are together of bulk at most 1048576: NARROWER than '..Said'. Prove '..Said' where nothing that the law and all that it calls make is longer than what came in: it says more and counts as full. Else prove '..UptoSaid'. A law counts once. -/
mutual
def uptoBulk {H : Type} : DataW H → Nat
  | .lit (.string bytes) => bytes.length + 1
  | .lit _ => 1
  | .nil => 1
  | .ptr d => uptoBulk d + 1
  | .slice elems spare => uptoBulkAll elems + uptoBulkAll spare + 1
  | .agg parts => uptoBulkAll parts + 1
  | .iface _ d => uptoBulk d + 1
  | .map entries => uptoBulkEntries entries + 1
  | .held _ => 1
def uptoBulkAll {H : Type} : List (DataW H) → Nat
  | [] => 0
  | d :: r => uptoBulk d + uptoBulkAll r
def uptoBulkEntries {H : Type} : List (Lit × DataW H) → Nat
  | [] => 0
  | x :: r => uptoBulkEntry x + uptoBulkEntries r
def uptoBulkEntry {H : Type} : Lit × DataW H → Nat
  | (.string bytes, d) => bytes.length + uptoBulk d + 1
  | (_, d) => uptoBulk d + 1
 end
def uptoSmall : (H : Type) → List (DataW H) → Bool := fun _ ds => decide (uptoBulkAll ds ≤ 1048576)
def OpenSpec.upto (s : _root_.Go.ChangeSpec) : _root_.Go.OpenSpec := { _root_.Go.OpenSpec.ofChange s with cond := some uptoSmall }

/-- 'tollwaylaw34.BillMonths', WHERE WHAT IT READS IS OF BULK AT MOST 1048576: true; the input reads as it did. -/
def billMonthsUptoRow : OpenClaim := { program := "ytlnnbkpcnhlfcaadoor", sum := "206da7e32cf7f7471b8b84834b4fcbd4e5826f32f57136be53f74912ca7905b0", func := "tollway/tollwaylaw34.BillMonths", spec := "billMonths", unfollowed := true, recurses := true, named := ["tollway/clock.months"], plainKeys := false, apart := false, laid := [("tollway/clock.months", laid_tollway_clock_months)], narrowed := true }
def BillMonthsUptoSaid : Prop := billMonthsUptoRow.holds Tryd.pinned (OpenSpec.upto billMonthsSpec)

/-- 'tollwaylaw34.BillEarlier', WHERE WHAT IT READS IS OF BULK AT MOST 1048576: true; the input reads as it did. -/
def billEarlierUptoRow : OpenClaim := { program := "ytlnnbkpcnhlfcaadoor", sum := "206da7e32cf7f7471b8b84834b4fcbd4e5826f32f57136be53f74912ca7905b0", func := "tollway/tollwaylaw34.BillEarlier", spec := "billEarlier", unfollowed := true, recurses := true, named := ["tollway/clock.months"], plainKeys := false, apart := false, laid := [("tollway/clock.months", laid_tollway_clock_months)], narrowed := true }
def BillEarlierUptoSaid : Prop := billEarlierUptoRow.holds Tryd.pinned (OpenSpec.upto billEarlierSpec)

/-- 'tollwaylaw34.BillCapped', WHERE WHAT IT READS IS OF BULK AT MOST 1048576: true; the input reads as it did. -/
def billCappedUptoRow : OpenClaim := { program := "ytlnnbkpcnhlfcaadoor", sum := "206da7e32cf7f7471b8b84834b4fcbd4e5826f32f57136be53f74912ca7905b0", func := "tollway/tollwaylaw34.BillCapped", spec := "billCapped", unfollowed := true, recurses := true, named := ["tollway/clock.months"], plainKeys := false, apart := false, laid := [("tollway/clock.months", laid_tollway_clock_months)], narrowed := true }
def BillCappedUptoSaid : Prop := billCappedUptoRow.holds Tryd.pinned (OpenSpec.upto billCappedSpec)

/-- 'tollwaylaw34.BillTotals', WHERE WHAT IT READS IS OF BULK AT MOST 1048576: true; the input reads as it did. -/
def billTotalsUptoRow : OpenClaim := { program := "ytlnnbkpcnhlfcaadoor", sum := "206da7e32cf7f7471b8b84834b4fcbd4e5826f32f57136be53f74912ca7905b0", func := "tollway/tollwaylaw34.BillTotals", spec := "billTotals", unfollowed := true, recurses := true, named := ["tollway/clock.months"], plainKeys := false, apart := false, laid := [("tollway/clock.months", laid_tollway_clock_months)], narrowed := true }
def BillTotalsUptoSaid : Prop := billTotalsUptoRow.holds Tryd.pinned (OpenSpec.upto billTotalsSpec)

/-- 'tollwaylaw34.BillDays', WHERE WHAT IT READS IS OF BULK AT MOST 1048576: true; the input reads as it did. -/
def billDaysUptoRow : OpenClaim := { program := "ytlnnbkpcnhlfcaadoor", sum := "206da7e32cf7f7471b8b84834b4fcbd4e5826f32f57136be53f74912ca7905b0", func := "tollway/tollwaylaw34.BillDays", spec := "billDays", unfollowed := true, recurses := true, named := ["tollway/clock.months"], plainKeys := false, apart := false, laid := [("tollway/clock.months", laid_tollway_clock_months)], narrowed := true }
def BillDaysUptoSaid : Prop := billDaysUptoRow.holds Tryd.pinned (OpenSpec.upto billDaysSpec)

/-- 'tollwaylaw34.BillKeeps', WHERE WHAT IT READS IS OF BULK AT MOST 1048576: true; the input reads as it did. -/
def billKeepsUptoRow : OpenClaim := { program := "ytlnnbkpcnhlfcaadoor", sum := "206da7e32cf7f7471b8b84834b4fcbd4e5826f32f57136be53f74912ca7905b0", func := "tollway/tollwaylaw34.BillKeeps", spec := "billKeeps", unfollowed := true, recurses := true, named := ["tollway/clock.months"], plainKeys := false, apart := false, laid := [("tollway/clock.months", laid_tollway_clock_months)], narrowed := true }
def BillKeepsUptoSaid : Prop := billKeepsUptoRow.holds Tryd.pinned (OpenSpec.upto billKeepsSpec)

/-- 'tollwaylaw34.BillAgain', WHERE WHAT IT READS IS OF BULK AT MOST 1048576: true; the input reads as it did. -/
def billAgainUptoRow : OpenClaim := { program := "ytlnnbkpcnhlfcaadoor", sum := "206da7e32cf7f7471b8b84834b4fcbd4e5826f32f57136be53f74912ca7905b0", func := "tollway/tollwaylaw34.BillAgain", spec := "billAgain", unfollowed := true, recurses := true, named := ["tollway/clock.months"], plainKeys := false, apart := false, laid := [("tollway/clock.months", laid_tollway_clock_months)], narrowed := true }
def BillAgainUptoSaid : Prop := billAgainUptoRow.holds Tryd.pinned (OpenSpec.upto billAgainSpec)

/-- 'tollwaylaw34.BillOnce', WHERE WHAT IT READS IS OF BULK AT MOST 1048576: true; the input reads as it did. -/
def billOnceUptoRow : OpenClaim := { program := "ytlnnbkpcnhlfcaadoor", sum := "206da7e32cf7f7471b8b84834b4fcbd4e5826f32f57136be53f74912ca7905b0", func := "tollway/tollwaylaw34.BillOnce", spec := "billOnce", unfollowed := true, recurses := true, named := ["tollway/clock.months"], plainKeys := false, apart := false, laid := [("tollway/clock.months", laid_tollway_clock_months)], narrowed := true }
def BillOnceUptoSaid : Prop := billOnceUptoRow.holds Tryd.pinned (OpenSpec.upto billOnceSpec)

/-- 'tollwaylaw34.BillSums', WHERE WHAT IT READS IS OF BULK AT MOST 1048576: true; the input reads as it did. -/
def billSumsUptoRow : OpenClaim := { program := "ytlnnbkpcnhlfcaadoor", sum := "206da7e32cf7f7471b8b84834b4fcbd4e5826f32f57136be53f74912ca7905b0", func := "tollway/tollwaylaw34.BillSums", spec := "billSums", unfollowed := true, recurses := true, named := ["tollway/clock.months"], plainKeys := false, apart := false, laid := [("tollway/clock.months", laid_tollway_clock_months)], narrowed := true }
def BillSumsUptoSaid : Prop := billSumsUptoRow.holds Tryd.pinned (OpenSpec.upto billSumsSpec)

end Rows
end Go.Proofs.YtlnnbkpcnhlfcaaDoor
