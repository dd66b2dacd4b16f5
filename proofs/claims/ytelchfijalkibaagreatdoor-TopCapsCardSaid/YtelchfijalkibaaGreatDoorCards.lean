/-
  DERIVED. GIVEN WITH THE SEED: THE CARDS: each row of YtelchfijalkibaaGreatDoorRows.lean that lists a variable, with what it lists TIED to the program's text (the seventh form; the later family's looks); each row that meets fmt, with fmt's text TOLD by the authors' own Lean function (tested against real Go, not proved from fmt's source: count such statements apart). THE CARD IS WHAT COUNTS. Prove the row's statement (the work); the ties are given (YtelchfijalkibaaGreatDoorTie.lean); close each card by the builder's one call (the guide's Derived/Test/ToyasCard.lean, 'card_holds'). Laid BY PROGRAM, IN A SANDBOX (cutbox-door.mjs). By AI agents, Wed Nov 11 2026. No macro, syntax, notation, axiom, sorry.
-/
import Derived.Test.YtelchfijalkibaaGreatDoorRows
import GoSem.ClaimSeven
namespace Go.Proofs.YtelchfijalkibaaGreatDoor
namespace Rows

/-- THE TIED CARD OF 'tollwaytop.TopCaps'. -/
def topCapsCard : Claim7 := { stood := { row := topCapsRow, standIns := [], harness := (true, "fecb29d9ec37bb4fe723cb5291258a4273d5c0fddd575d5fea0e3e3dba8cb3b1"), looks := false }, kinds := [], alts := [], laidByText := true, laidKinds := [.data], laidTests := true, laidLooks := .later }
def TopCapsCardSaid : Prop := Claim7.holds Tryz.pinned (.plain (OpenSpec.ofChange topCapsSpec)) topCapsCard

/-- THE SECOND FORM's CARD OF 'tollwaytop.TopCaps'. -/
def topCapsUptoCard : Claim7 := { stood := { row := topCapsUptoRow, standIns := [], harness := (true, "fecb29d9ec37bb4fe723cb5291258a4273d5c0fddd575d5fea0e3e3dba8cb3b1"), looks := false }, kinds := [], alts := [], laidByText := true, laidKinds := [.data], laidTests := true, laidLooks := .later }
def TopCapsUptoCardSaid : Prop := Claim7.holds Tryz.pinned (.plain (OpenSpec.upto topCapsSpec)) topCapsUptoCard
end Rows
end Go.Proofs.YtelchfijalkibaaGreatDoor
