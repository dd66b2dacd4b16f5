/-
  DERIVED. GIVEN WITH THE SEED: THE CARDS: each row of YtimffppffbideaaGreatDoorRows.lean that lists a variable, with what it lists TIED to the program's text (the seventh form; the later family's looks); each row that meets fmt, with fmt's text TOLD by the authors' own Lean function (tested against real Go, not proved from fmt's source: count such statements apart). THE CARD IS WHAT COUNTS. Prove the row's statement (the work); the ties are given (YtimffppffbideaaGreatDoorTie.lean); close each card by the builder's one call (the guide's Derived/Test/ToyasCard.lean, 'card_holds'). Laid BY PROGRAM, IN A SANDBOX (cutbox-door.mjs). By AI agents, Wed Nov 11 2026. No macro, syntax, notation, axiom, sorry.
-/
import Derived.Test.YtimffppffbideaaGreatDoorRows
import GoSem.ClaimSeven
namespace Go.Proofs.YtimffppffbideaaGreatDoor
namespace Rows

/-- THE TIED CARD OF 'tollwaytop.TopSeen'. -/
def topSeenCard : Claim7 := { stood := { row := topSeenRow, standIns := [], harness := (true, "4907c2fc83c7a271079fd3210f34a99639784fe6e6f90bd531cfebbfdb33ef02"), looks := false }, kinds := [], alts := [], laidByText := true, laidKinds := [.data, .data, .data], laidTests := true, laidLooks := .later }
def TopSeenCardSaid : Prop := Claim7.holds Tryz.pinned (.plain (OpenSpec.ofChange topSeenSpec)) topSeenCard

/-- THE TIED CARD OF 'tollwaytop.TopAdded'. -/
def topAddedCard : Claim7 := { stood := { row := topAddedRow, standIns := [], harness := (true, "4907c2fc83c7a271079fd3210f34a99639784fe6e6f90bd531cfebbfdb33ef02"), looks := false }, kinds := [], alts := [], laidByText := true, laidKinds := [.data, .data, .data], laidTests := true, laidLooks := .later }
def TopAddedCardSaid : Prop := Claim7.holds Tryz.pinned (.plain (OpenSpec.ofChange topAddedSpec)) topAddedCard

/-- THE SECOND FORM's CARD OF 'tollwaytop.TopSeen'. -/
def topSeenUptoCard : Claim7 := { stood := { row := topSeenUptoRow, standIns := [], harness := (true, "4907c2fc83c7a271079fd3210f34a99639784fe6e6f90bd531cfebbfdb33ef02"), looks := false }, kinds := [], alts := [], laidByText := true, laidKinds := [.data, .data, .data], laidTests := true, laidLooks := .later }
def TopSeenUptoCardSaid : Prop := Claim7.holds Tryz.pinned (.plain (OpenSpec.upto topSeenSpec)) topSeenUptoCard

/-- THE SECOND FORM's CARD OF 'tollwaytop.TopAdded'. -/
def topAddedUptoCard : Claim7 := { stood := { row := topAddedUptoRow, standIns := [], harness := (true, "4907c2fc83c7a271079fd3210f34a99639784fe6e6f90bd531cfebbfdb33ef02"), looks := false }, kinds := [], alts := [], laidByText := true, laidKinds := [.data, .data, .data], laidTests := true, laidLooks := .later }
def TopAddedUptoCardSaid : Prop := Claim7.holds Tryz.pinned (.plain (OpenSpec.upto topAddedSpec)) topAddedUptoCard
end Rows
end Go.Proofs.YtimffppffbideaaGreatDoor
