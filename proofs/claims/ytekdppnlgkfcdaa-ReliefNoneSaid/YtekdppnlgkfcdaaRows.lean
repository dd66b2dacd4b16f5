/-
  No cell of these rows narrows 'for every input' (looked for: loops, veiled, ifaces, maps, wideKeys, modest, calm, conditions, laid).
  DERIVED. THE GIVEN ROWS OF THIS SEAT. 6 by the template 'for every input the law returns true; each argument reads behind the call as it read before'; 0 by the template 'total and deterministic' (their statements: YtekdppnlgkfcdaaTotals.lean).
  GIVEN WITH THE SEED: the statements are not yours to turn. If you find one false, say at which input.
  Laid BY PROGRAM, IN A SANDBOX (cutbox-rows.mjs): the forced cells as the released guide's own fill.sh prints them over the translation bf0d870e6c4e4759… (all of the seat's roots in one cut). By AI agents, Wed Nov 11 2026. No macro, syntax, notation, axiom, sorry.
-/
import Derived.Test.YtekdppnlgkfcdaaChecked
import GoSem.Claim
import GoSem.ClaimJoined
import GoSem.ClaimMapViews
import Derived.JoinedTies
import Derived.KernelRfl
namespace Go.Proofs.Ytekdppnlgkfcdaa
/- THE CELL 'sum', in the pinned program and in every row, IS THE sha256 OF THE DUMP (.gsa) THAT YtekdppnlgkfcdaaProg.lean LOADS. Nothing in Lean hashes anything: it is a label: what it is worth is what the hold of that sum in a sandbox is worth. -/
noncomputable def Try.pinned : Pinned := { name := "ytekdppnlgkfcdaa", sum := "bf0d870e6c4e475993c643556b843f6c2693ae84995cf46cdffdbe3539140890", checked := Try.checked }
namespace Rows
def none {H : Type} : Left H := { results := [], args := [] }

/-- 'tollwaylaw45.ReliefChecks': WHATEVER THE INPUT: true; the input reads as it did. -/
def reliefChecksSpec : ChangeSpec := { name := "reliefChecks", fn := fun _ => fun
  | [d1, d2] => { results := [.lit (.bool true)], args := [d1, d2] }
  | _ => none }
def reliefChecksRow : OpenClaim := { program := "ytekdppnlgkfcdaa", sum := "bf0d870e6c4e475993c643556b843f6c2693ae84995cf46cdffdbe3539140890", func := "tollway/tollwaylaw45.ReliefChecks", spec := "reliefChecks", inPlace := ["internal/bytealg.abigen_runtime_cmpstring"], unfollowed := true, recurses := true, named := ["math/bits.divideError", "math/bits.overflowError"], apart := false }
def ReliefChecksSaid : Prop := reliefChecksRow.holds Try.pinned (OpenSpec.ofChange reliefChecksSpec)

/-- ITS FALSE NEIGHBOUR: 'it returns false'. Refute it at one input. -/
def reliefChecksWrong : ChangeSpec := { name := "reliefChecks", fn := fun _ => fun
  | [d1, d2] => { results := [.lit (.bool false)], args := [d1, d2] }
  | _ => none }
def ReliefChecksWrongFalsely : Prop := reliefChecksRow.holds Try.pinned (OpenSpec.ofChange reliefChecksWrong)

/-- 'tollwaylaw45.ReliefDown': WHATEVER THE INPUT: true; the input reads as it did. -/
def reliefDownSpec : ChangeSpec := { name := "reliefDown", fn := fun _ => fun
  | [d1, d2] => { results := [.lit (.bool true)], args := [d1, d2] }
  | _ => none }
def reliefDownRow : OpenClaim := { program := "ytekdppnlgkfcdaa", sum := "bf0d870e6c4e475993c643556b843f6c2693ae84995cf46cdffdbe3539140890", func := "tollway/tollwaylaw45.ReliefDown", spec := "reliefDown", inPlace := ["internal/bytealg.abigen_runtime_cmpstring"], unfollowed := true, recurses := true, named := ["math/bits.divideError", "math/bits.overflowError"], apart := false }
def ReliefDownSaid : Prop := reliefDownRow.holds Try.pinned (OpenSpec.ofChange reliefDownSpec)

/-- ITS FALSE NEIGHBOUR: 'it returns false'. Refute it at one input. -/
def reliefDownWrong : ChangeSpec := { name := "reliefDown", fn := fun _ => fun
  | [d1, d2] => { results := [.lit (.bool false)], args := [d1, d2] }
  | _ => none }
def ReliefDownWrongFalsely : Prop := reliefDownRow.holds Try.pinned (OpenSpec.ofChange reliefDownWrong)

/-- 'tollwaylaw45.ReliefApplies': WHATEVER THE INPUT: true; the input reads as it did. -/
def reliefAppliesSpec : ChangeSpec := { name := "reliefApplies", fn := fun _ => fun
  | [d1, d2, d3] => { results := [.lit (.bool true)], args := [d1, d2, d3] }
  | _ => none }
def reliefAppliesRow : OpenClaim := { program := "ytekdppnlgkfcdaa", sum := "bf0d870e6c4e475993c643556b843f6c2693ae84995cf46cdffdbe3539140890", func := "tollway/tollwaylaw45.ReliefApplies", spec := "reliefApplies", inPlace := ["internal/bytealg.abigen_runtime_cmpstring"], unfollowed := true, recurses := true, named := ["math/bits.divideError", "math/bits.overflowError"], apart := false }
def ReliefAppliesSaid : Prop := reliefAppliesRow.holds Try.pinned (OpenSpec.ofChange reliefAppliesSpec)

/-- ITS FALSE NEIGHBOUR: 'it returns false'. Refute it at one input. -/
def reliefAppliesWrong : ChangeSpec := { name := "reliefApplies", fn := fun _ => fun
  | [d1, d2, d3] => { results := [.lit (.bool false)], args := [d1, d2, d3] }
  | _ => none }
def ReliefAppliesWrongFalsely : Prop := reliefAppliesRow.holds Try.pinned (OpenSpec.ofChange reliefAppliesWrong)

/-- 'tollwaylaw45.ReliefKeeps': WHATEVER THE INPUT: true; the input reads as it did. -/
def reliefKeepsSpec : ChangeSpec := { name := "reliefKeeps", fn := fun _ => fun
  | [d1, d2, d3] => { results := [.lit (.bool true)], args := [d1, d2, d3] }
  | _ => none }
def reliefKeepsRow : OpenClaim := { program := "ytekdppnlgkfcdaa", sum := "bf0d870e6c4e475993c643556b843f6c2693ae84995cf46cdffdbe3539140890", func := "tollway/tollwaylaw45.ReliefKeeps", spec := "reliefKeeps", inPlace := ["internal/bytealg.abigen_runtime_cmpstring"], unfollowed := true, recurses := true, named := ["math/bits.divideError", "math/bits.overflowError"], apart := false }
def ReliefKeepsSaid : Prop := reliefKeepsRow.holds Try.pinned (OpenSpec.ofChange reliefKeepsSpec)

/-- ITS FALSE NEIGHBOUR: 'it returns false'. Refute it at one input. -/
def reliefKeepsWrong : ChangeSpec := { name := "reliefKeeps", fn := fun _ => fun
  | [d1, d2, d3] => { results := [.lit (.bool false)], args := [d1, d2, d3] }
  | _ => none }
def ReliefKeepsWrongFalsely : Prop := reliefKeepsRow.holds Try.pinned (OpenSpec.ofChange reliefKeepsWrong)

/-- 'tollwaylaw45.ReliefMore': WHATEVER THE INPUT: true; the input reads as it did. -/
def reliefMoreSpec : ChangeSpec := { name := "reliefMore", fn := fun _ => fun
  | [d1, d2, d3] => { results := [.lit (.bool true)], args := [d1, d2, d3] }
  | _ => none }
def reliefMoreRow : OpenClaim := { program := "ytekdppnlgkfcdaa", sum := "bf0d870e6c4e475993c643556b843f6c2693ae84995cf46cdffdbe3539140890", func := "tollway/tollwaylaw45.ReliefMore", spec := "reliefMore", inPlace := ["internal/bytealg.abigen_runtime_cmpstring"], unfollowed := true, recurses := true, named := ["math/bits.divideError", "math/bits.overflowError"], apart := false }
def ReliefMoreSaid : Prop := reliefMoreRow.holds Try.pinned (OpenSpec.ofChange reliefMoreSpec)

/-- ITS FALSE NEIGHBOUR: 'it returns false'. Refute it at one input. -/
def reliefMoreWrong : ChangeSpec := { name := "reliefMore", fn := fun _ => fun
  | [d1, d2, d3] => { results := [.lit (.bool false)], args := [d1, d2, d3] }
  | _ => none }
def ReliefMoreWrongFalsely : Prop := reliefMoreRow.holds Try.pinned (OpenSpec.ofChange reliefMoreWrong)

/-- 'tollwaylaw45.ReliefNone': WHATEVER THE INPUT: true; the input reads as it did. -/
def reliefNoneSpec : ChangeSpec := { name := "reliefNone", fn := fun _ => fun
  | [d1, d2, d3] => { results := [.lit (.bool true)], args := [d1, d2, d3] }
  | _ => none }
def reliefNoneRow : OpenClaim := { program := "ytekdppnlgkfcdaa", sum := "bf0d870e6c4e475993c643556b843f6c2693ae84995cf46cdffdbe3539140890", func := "tollway/tollwaylaw45.ReliefNone", spec := "reliefNone", inPlace := ["internal/bytealg.abigen_runtime_cmpstring"], unfollowed := true, recurses := true, named := ["math/bits.divideError", "math/bits.overflowError"], apart := false }
def ReliefNoneSaid : Prop := reliefNoneRow.holds Try.pinned (OpenSpec.ofChange reliefNoneSpec)

/-- ITS FALSE NEIGHBOUR: 'it returns false'. Refute it at one input. -/
def reliefNoneWrong : ChangeSpec := { name := "reliefNone", fn := fun _ => fun
  | [d1, d2, d3] => { results := [.lit (.bool false)], args := [d1, d2, d3] }
  | _ => none }
def ReliefNoneWrongFalsely : Prop := reliefNoneRow.holds Try.pinned (OpenSpec.ofChange reliefNoneWrong)

/- THE SECOND FORM. 'bulk': how many values and letters a reading holds, each counted each time it is reached (what is shared counts as often as it is met; a slice's spare places count too). A statement '..UptoSaid' is the law's where the arguments, and the package variables that the reading takes, are together of bulk at most 1048576: NARROWER than '..Said'. Prove '..Said' where nothing that the law and all that it calls make is longer than what came in: it says more and counts as full. Else prove '..UptoSaid'. A law counts once. -/
mutual
def uptoBulk {H : Type} : DataW H → Nat
  | .lit (.string bytes) => bytes.length + 1
  | .lit _ => 1
  | .nil => 1
  | .ptr d => uptoBulk d + 1
  | .slice elems spare => uptoBulkAll elems + uptoBulkAll spare + 1
  | .agg parts => uptoBulkAll parts + 1
  | .iface _ d => uptoBulk d + 1
  | .map entries => uptoBulkEntries entries + 1
  | .held _ => 1
def uptoBulkAll {H : Type} : List (DataW H) → Nat
  | [] => 0
  | d :: r => uptoBulk d + uptoBulkAll r
def uptoBulkEntries {H : Type} : List (Lit × DataW H) → Nat
  | [] => 0
  | x :: r => uptoBulkEntry x + uptoBulkEntries r
def uptoBulkEntry {H : Type} : Lit × DataW H → Nat
  | (.string bytes, d) => bytes.length + uptoBulk d + 1
  | (_, d) => uptoBulk d + 1
 end
def uptoSmall : (H : Type) → List (DataW H) → Bool := fun _ ds => decide (uptoBulkAll ds ≤ 1048576)
def OpenSpec.upto (s : _root_.Go.ChangeSpec) : _root_.Go.OpenSpec := { _root_.Go.OpenSpec.ofChange s with cond := some uptoSmall }

/-- 'tollwaylaw45.ReliefChecks', WHERE WHAT IT READS IS OF BULK AT MOST 1048576: true; the input reads as it did. -/
def reliefChecksUptoRow : OpenClaim := { program := "ytekdppnlgkfcdaa", sum := "bf0d870e6c4e475993c643556b843f6c2693ae84995cf46cdffdbe3539140890", func := "tollway/tollwaylaw45.ReliefChecks", spec := "reliefChecks", inPlace := ["internal/bytealg.abigen_runtime_cmpstring"], unfollowed := true, recurses := true, named := ["math/bits.divideError", "math/bits.overflowError"], apart := false, narrowed := true }
def ReliefChecksUptoSaid : Prop := reliefChecksUptoRow.holds Try.pinned (OpenSpec.upto reliefChecksSpec)

/-- 'tollwaylaw45.ReliefDown', WHERE WHAT IT READS IS OF BULK AT MOST 1048576: true; the input reads as it did. -/
def reliefDownUptoRow : OpenClaim := { program := "ytekdppnlgkfcdaa", sum := "bf0d870e6c4e475993c643556b843f6c2693ae84995cf46cdffdbe3539140890", func := "tollway/tollwaylaw45.ReliefDown", spec := "reliefDown", inPlace := ["internal/bytealg.abigen_runtime_cmpstring"], unfollowed := true, recurses := true, named := ["math/bits.divideError", "math/bits.overflowError"], apart := false, narrowed := true }
def ReliefDownUptoSaid : Prop := reliefDownUptoRow.holds Try.pinned (OpenSpec.upto reliefDownSpec)

/-- 'tollwaylaw45.ReliefApplies', WHERE WHAT IT READS IS OF BULK AT MOST 1048576: true; the input reads as it did. -/
def reliefAppliesUptoRow : OpenClaim := { program := "ytekdppnlgkfcdaa", sum := "bf0d870e6c4e475993c643556b843f6c2693ae84995cf46cdffdbe3539140890", func := "tollway/tollwaylaw45.ReliefApplies", spec := "reliefApplies", inPlace := ["internal/bytealg.abigen_runtime_cmpstring"], unfollowed := true, recurses := true, named := ["math/bits.divideError", "math/bits.overflowError"], apart := false, narrowed := true }
def ReliefAppliesUptoSaid : Prop := reliefAppliesUptoRow.holds Try.pinned (OpenSpec.upto reliefAppliesSpec)

/-- 'tollwaylaw45.ReliefKeeps', WHERE WHAT IT READS IS OF BULK AT MOST 1048576: true; the input reads as it did. -/
def reliefKeepsUptoRow : OpenClaim := { program := "ytekdppnlgkfcdaa", sum := "bf0d870e6c4e475993c643556b843f6c2693ae84995cf46cdffdbe3539140890", func := "tollway/tollwaylaw45.ReliefKeeps", spec := "reliefKeeps", inPlace := ["internal/bytealg.abigen_runtime_cmpstring"], unfollowed := true, recurses := true, named := ["math/bits.divideError", "math/bits.overflowError"], apart := false, narrowed := true }
def ReliefKeepsUptoSaid : Prop := reliefKeepsUptoRow.holds Try.pinned (OpenSpec.upto reliefKeepsSpec)

/-- 'tollwaylaw45.ReliefMore', WHERE WHAT IT READS IS OF BULK AT MOST 1048576: true; the input reads as it did. -/
def reliefMoreUptoRow : OpenClaim := { program := "ytekdppnlgkfcdaa", sum := "bf0d870e6c4e475993c643556b843f6c2693ae84995cf46cdffdbe3539140890", func := "tollway/tollwaylaw45.ReliefMore", spec := "reliefMore", inPlace := ["internal/bytealg.abigen_runtime_cmpstring"], unfollowed := true, recurses := true, named := ["math/bits.divideError", "math/bits.overflowError"], apart := false, narrowed := true }
def ReliefMoreUptoSaid : Prop := reliefMoreUptoRow.holds Try.pinned (OpenSpec.upto reliefMoreSpec)

/-- 'tollwaylaw45.ReliefNone', WHERE WHAT IT READS IS OF BULK AT MOST 1048576: true; the input reads as it did. -/
def reliefNoneUptoRow : OpenClaim := { program := "ytekdppnlgkfcdaa", sum := "bf0d870e6c4e475993c643556b843f6c2693ae84995cf46cdffdbe3539140890", func := "tollway/tollwaylaw45.ReliefNone", spec := "reliefNone", inPlace := ["internal/bytealg.abigen_runtime_cmpstring"], unfollowed := true, recurses := true, named := ["math/bits.divideError", "math/bits.overflowError"], apart := false, narrowed := true }
def ReliefNoneUptoSaid : Prop := reliefNoneUptoRow.holds Try.pinned (OpenSpec.upto reliefNoneSpec)

end Rows
end Go.Proofs.Ytekdppnlgkfcdaa
