/-
  No cell of these rows narrows 'for every input' (looked for: loops, veiled, ifaces, maps, wideKeys, modest, calm, conditions, laid).
  DERIVED. THE GIVEN ROWS OF THIS SEAT. 5 by the template 'for every input the law returns true; each argument reads behind the call as it read before'; 0 by the template 'total and deterministic' (their statements: YtcpfiiapfggmpaaGreatTotals.lean).
  GIVEN WITH THE SEED: the statements are not yours to turn. If you find one false, say at which input.
  Laid BY PROGRAM, IN A SANDBOX (cutbox-rows.mjs): the forced cells as the released guide's own fill.sh prints them over the translation 9ee8865401a12aef… (all of the seat's roots in one cut). By AI agents, Wed Nov 11 2026. No macro, syntax, notation, axiom, sorry.
-/
import Derived.Test.YtcpfiiapfggmpaaGreatChecked
import GoSem.Claim
import GoSem.ClaimJoined
import GoSem.ClaimMapViews
import Derived.JoinedTies
import Derived.KernelRfl
namespace Go.Proofs.YtcpfiiapfggmpaaGreat
/- THE CELL 'sum', in the pinned program and in every row, IS THE sha256 OF THE DUMP (.gsa) THAT YtcpfiiapfggmpaaGreatProg.lean LOADS. Nothing in Lean hashes anything: it is a label: what it is worth is what the hold of that sum in a sandbox is worth. -/
noncomputable def Tryz.pinned : Pinned := { name := "ytcpfiiapfggmpaagreat", sum := "9ee8865401a12aef34c6a44b103760029d19e89b03f2ddc487f61f59b0625ab2", checked := Tryz.checked }
namespace Rows
def none {H : Type} : Left H := { results := [], args := [] }

/-- 'tollwaylaw31.PriceBases': WHATEVER THE INPUT: true; the input reads as it did. -/
def priceBasesSpec : ChangeSpec := { name := "priceBases", fn := fun _ => fun
  | [d1, d2] => { results := [.lit (.bool true)], args := [d1, d2] }
  | _ => none }
def priceBasesRow : OpenClaim := { program := "ytcpfiiapfggmpaagreat", sum := "9ee8865401a12aef34c6a44b103760029d19e89b03f2ddc487f61f59b0625ab2", func := "tollway/tollwaylaw31.PriceBases", spec := "priceBases", inPlace := ["internal/bytealg.abigen_runtime_cmpstring"], unfollowed := true, recurses := true, named := ["math/bits.divideError", "math/bits.overflowError"], apart := false }
def PriceBasesSaid : Prop := priceBasesRow.holds Tryz.pinned (OpenSpec.ofChange priceBasesSpec)

/-- ITS FALSE NEIGHBOUR: 'it returns false'. Refute it at one input. -/
def priceBasesWrong : ChangeSpec := { name := "priceBases", fn := fun _ => fun
  | [d1, d2] => { results := [.lit (.bool false)], args := [d1, d2] }
  | _ => none }
def PriceBasesWrongFalsely : Prop := priceBasesRow.holds Tryz.pinned (OpenSpec.ofChange priceBasesWrong)

/-- 'tollwaylaw31.PriceStays': WHATEVER THE INPUT: true; the input reads as it did. -/
def priceStaysSpec : ChangeSpec := { name := "priceStays", fn := fun _ => fun
  | [d1, d2, d3] => { results := [.lit (.bool true)], args := [d1, d2, d3] }
  | _ => none }
def priceStaysRow : OpenClaim := { program := "ytcpfiiapfggmpaagreat", sum := "9ee8865401a12aef34c6a44b103760029d19e89b03f2ddc487f61f59b0625ab2", func := "tollway/tollwaylaw31.PriceStays", spec := "priceStays", inPlace := ["internal/bytealg.abigen_runtime_cmpstring"], unfollowed := true, recurses := true, named := ["math/bits.divideError", "math/bits.overflowError"], apart := false }
def PriceStaysSaid : Prop := priceStaysRow.holds Tryz.pinned (OpenSpec.ofChange priceStaysSpec)

/-- ITS FALSE NEIGHBOUR: 'it returns false'. Refute it at one input. -/
def priceStaysWrong : ChangeSpec := { name := "priceStays", fn := fun _ => fun
  | [d1, d2, d3] => { results := [.lit (.bool false)], args := [d1, d2, d3] }
  | _ => none }
def PriceStaysWrongFalsely : Prop := priceStaysRow.holds Tryz.pinned (OpenSpec.ofChange priceStaysWrong)

/-- 'tollwaylaw31.PriceParts': WHATEVER THE INPUT: true; the input reads as it did. -/
def pricePartsSpec : ChangeSpec := { name := "priceParts", fn := fun _ => fun
  | [d1, d2, d3] => { results := [.lit (.bool true)], args := [d1, d2, d3] }
  | _ => none }
def pricePartsRow : OpenClaim := { program := "ytcpfiiapfggmpaagreat", sum := "9ee8865401a12aef34c6a44b103760029d19e89b03f2ddc487f61f59b0625ab2", func := "tollway/tollwaylaw31.PriceParts", spec := "priceParts", inPlace := ["internal/bytealg.abigen_runtime_cmpstring"], unfollowed := true, recurses := true, named := ["math/bits.divideError", "math/bits.overflowError"], apart := false }
def PricePartsSaid : Prop := pricePartsRow.holds Tryz.pinned (OpenSpec.ofChange pricePartsSpec)

/-- ITS FALSE NEIGHBOUR: 'it returns false'. Refute it at one input. -/
def pricePartsWrong : ChangeSpec := { name := "priceParts", fn := fun _ => fun
  | [d1, d2, d3] => { results := [.lit (.bool false)], args := [d1, d2, d3] }
  | _ => none }
def PricePartsWrongFalsely : Prop := pricePartsRow.holds Tryz.pinned (OpenSpec.ofChange pricePartsWrong)

/-- 'tollwaylaw31.PriceTrips': WHATEVER THE INPUT: true; the input reads as it did. -/
def priceTripsSpec : ChangeSpec := { name := "priceTrips", fn := fun _ => fun
  | [d1, d2, d3, d4] => { results := [.lit (.bool true)], args := [d1, d2, d3, d4] }
  | _ => none }
def priceTripsRow : OpenClaim := { program := "ytcpfiiapfggmpaagreat", sum := "9ee8865401a12aef34c6a44b103760029d19e89b03f2ddc487f61f59b0625ab2", func := "tollway/tollwaylaw31.PriceTrips", spec := "priceTrips", inPlace := ["internal/bytealg.abigen_runtime_cmpstring"], unfollowed := true, recurses := true, named := ["math/bits.divideError", "math/bits.overflowError"], apart := false }
def PriceTripsSaid : Prop := priceTripsRow.holds Tryz.pinned (OpenSpec.ofChange priceTripsSpec)

/-- ITS FALSE NEIGHBOUR: 'it returns false'. Refute it at one input. -/
def priceTripsWrong : ChangeSpec := { name := "priceTrips", fn := fun _ => fun
  | [d1, d2, d3, d4] => { results := [.lit (.bool false)], args := [d1, d2, d3, d4] }
  | _ => none }
def PriceTripsWrongFalsely : Prop := priceTripsRow.holds Tryz.pinned (OpenSpec.ofChange priceTripsWrong)

/-- 'tollwaylaw31.PriceLeast': WHATEVER THE INPUT: true; the input reads as it did. -/
def priceLeastSpec : ChangeSpec := { name := "priceLeast", fn := fun _ => fun
  | [d1, d2, d3, d4, d5] => { results := [.lit (.bool true)], args := [d1, d2, d3, d4, d5] }
  | _ => none }
def priceLeastRow : OpenClaim := { program := "ytcpfiiapfggmpaagreat", sum := "9ee8865401a12aef34c6a44b103760029d19e89b03f2ddc487f61f59b0625ab2", func := "tollway/tollwaylaw31.PriceLeast", spec := "priceLeast", inPlace := ["internal/bytealg.abigen_runtime_cmpstring"], unfollowed := true, recurses := true, named := ["math/bits.divideError", "math/bits.overflowError"], apart := false }
def PriceLeastSaid : Prop := priceLeastRow.holds Tryz.pinned (OpenSpec.ofChange priceLeastSpec)

/-- ITS FALSE NEIGHBOUR: 'it returns false'. Refute it at one input. -/
def priceLeastWrong : ChangeSpec := { name := "priceLeast", fn := fun _ => fun
  | [d1, d2, d3, d4, d5] => { results := [.lit (.bool false)], args := [d1, d2, d3, d4, d5] }
  | _ => none }
def PriceLeastWrongFalsely : Prop := priceLeastRow.holds Tryz.pinned (OpenSpec.ofChange priceLeastWrong)

/- THE SECOND FORM. 'bulk': how many values and letters a reading holds, each counted each time it is reached (what is shared counts as often as it is met; a slice's spare places count too). A statement '..UptoSaid' is the law's where the arguments, and the package variables that the reading takes, are together of bulk at most 1048576: NARROWER than '..Said'. Prove '..Said' where nothing that the law and all that it calls make is longer than what came in: it says more and counts as full. Else prove '..UptoSaid'. A law counts once. -/
mutual
def uptoBulk {H : Type} : DataW H → Nat
  | .lit (.string bytes) => bytes.length + 1
  | .lit _ => 1
  | .nil => 1
  | .ptr d => uptoBulk d + 1
  | .slice elems spare => uptoBulkAll elems + uptoBulkAll spare + 1
  | .agg parts => uptoBulkAll parts + 1
  | .iface _ d => uptoBulk d + 1
  | .map entries => uptoBulkEntries entries + 1
  | .held _ => 1
def uptoBulkAll {H : Type} : List (DataW H) → Nat
  | [] => 0
  | d :: r => uptoBulk d + uptoBulkAll r
def uptoBulkEntries {H : Type} : List (Lit × DataW H) → Nat
  | [] => 0
  | x :: r => uptoBulkEntry x + uptoBulkEntries r
def uptoBulkEntry {H : Type} : Lit × DataW H → Nat
  | (.string bytes, d) => bytes.length + uptoBulk d + 1
  | (_, d) => uptoBulk d + 1
 end
def uptoSmall : (H : Type) → List (DataW H) → Bool := fun _ ds => decide (uptoBulkAll ds ≤ 1048576)
def OpenSpec.upto (s : _root_.Go.ChangeSpec) : _root_.Go.OpenSpec := { _root_.Go.OpenSpec.ofChange s with cond := some uptoSmall }

/-- 'tollwaylaw31.PriceBases', WHERE WHAT IT READS IS OF BULK AT MOST 1048576: true; the input reads as it did. -/
def priceBasesUptoRow : OpenClaim := { program := "ytcpfiiapfggmpaagreat", sum := "9ee8865401a12aef34c6a44b103760029d19e89b03f2ddc487f61f59b0625ab2", func := "tollway/tollwaylaw31.PriceBases", spec := "priceBases", inPlace := ["internal/bytealg.abigen_runtime_cmpstring"], unfollowed := true, recurses := true, named := ["math/bits.divideError", "math/bits.overflowError"], apart := false, narrowed := true }
def PriceBasesUptoSaid : Prop := priceBasesUptoRow.holds Tryz.pinned (OpenSpec.upto priceBasesSpec)

/-- 'tollwaylaw31.PriceStays', WHERE WHAT IT READS IS OF BULK AT MOST 1048576: true; the input reads as it did. -/
def priceStaysUptoRow : OpenClaim := { program := "ytcpfiiapfggmpaagreat", sum := "9ee8865401a12aef34c6a44b103760029d19e89b03f2ddc487f61f59b0625ab2", func := "tollway/tollwaylaw31.PriceStays", spec := "priceStays", inPlace := ["internal/bytealg.abigen_runtime_cmpstring"], unfollowed := true, recurses := true, named := ["math/bits.divideError", "math/bits.overflowError"], apart := false, narrowed := true }
def PriceStaysUptoSaid : Prop := priceStaysUptoRow.holds Tryz.pinned (OpenSpec.upto priceStaysSpec)

/-- 'tollwaylaw31.PriceParts', WHERE WHAT IT READS IS OF BULK AT MOST 1048576: true; the input reads as it did. -/
def pricePartsUptoRow : OpenClaim := { program := "ytcpfiiapfggmpaagreat", sum := "9ee8865401a12aef34c6a44b103760029d19e89b03f2ddc487f61f59b0625ab2", func := "tollway/tollwaylaw31.PriceParts", spec := "priceParts", inPlace := ["internal/bytealg.abigen_runtime_cmpstring"], unfollowed := true, recurses := true, named := ["math/bits.divideError", "math/bits.overflowError"], apart := false, narrowed := true }
def PricePartsUptoSaid : Prop := pricePartsUptoRow.holds Tryz.pinned (OpenSpec.upto pricePartsSpec)

/-- 'tollwaylaw31.PriceTrips', WHERE WHAT IT READS IS OF BULK AT MOST 1048576: true; the input reads as it did. -/
def priceTripsUptoRow : OpenClaim := { program := "ytcpfiiapfggmpaagreat", sum := "9ee8865401a12aef34c6a44b103760029d19e89b03f2ddc487f61f59b0625ab2", func := "tollway/tollwaylaw31.PriceTrips", spec := "priceTrips", inPlace := ["internal/bytealg.abigen_runtime_cmpstring"], unfollowed := true, recurses := true, named := ["math/bits.divideError", "math/bits.overflowError"], apart := false, narrowed := true }
def PriceTripsUptoSaid : Prop := priceTripsUptoRow.holds Tryz.pinned (OpenSpec.upto priceTripsSpec)

/-- 'tollwaylaw31.PriceLeast', WHERE WHAT IT READS IS OF BULK AT MOST 1048576: true; the input reads as it did. -/
def priceLeastUptoRow : OpenClaim := { program := "ytcpfiiapfggmpaagreat", sum := "9ee8865401a12aef34c6a44b103760029d19e89b03f2ddc487f61f59b0625ab2", func := "tollway/tollwaylaw31.PriceLeast", spec := "priceLeast", inPlace := ["internal/bytealg.abigen_runtime_cmpstring"], unfollowed := true, recurses := true, named := ["math/bits.divideError", "math/bits.overflowError"], apart := false, narrowed := true }
def PriceLeastUptoSaid : Prop := priceLeastUptoRow.holds Tryz.pinned (OpenSpec.upto priceLeastSpec)

end Rows
end Go.Proofs.YtcpfiiapfggmpaaGreat
