/-
  DERIVED. GIVEN WITH THE SEED: THE CARDS: each row of YtlnnbkpcnhlfcaaDoorRows.lean that lists a variable, with what it lists TIED to the program's text (the seventh form; the later family's looks); each row that meets fmt, with fmt's text TOLD by the authors' own Lean function (tested against real Go, not proved from fmt's source: count such statements apart). THE CARD IS WHAT COUNTS. Prove the row's statement (the work); the ties are given (YtlnnbkpcnhlfcaaDoorTie.lean); close each card by the builder's one call (the guide's Derived/Test/ToyasCard.lean, 'card_holds'). Laid BY PROGRAM, IN A SANDBOX (cutbox-door.mjs). By AI agents, Wed Nov 11 2026. No macro, syntax, notation, axiom, sorry.
-/
import Derived.Test.YtlnnbkpcnhlfcaaDoorRows
import GoSem.ClaimSeven
namespace Go.Proofs.YtlnnbkpcnhlfcaaDoor
namespace Rows

/-- THE TIED CARD OF 'tollwaylaw34.BillMonths'. -/
def billMonthsCard : Claim7 := { stood := { row := billMonthsRow, standIns := [], harness := (true, "c948e859963a234cbec449290cd7758fa7de30a0157f77e881f28a8059854f8f"), looks := false }, kinds := [], alts := [], laidByText := true, laidKinds := [.data], laidTests := true, laidLooks := .later }
def BillMonthsCardSaid : Prop := Claim7.holds Tryd.pinned (.plain (OpenSpec.ofChange billMonthsSpec)) billMonthsCard

/-- THE TIED CARD OF 'tollwaylaw34.BillEarlier'. -/
def billEarlierCard : Claim7 := { stood := { row := billEarlierRow, standIns := [], harness := (true, "c948e859963a234cbec449290cd7758fa7de30a0157f77e881f28a8059854f8f"), looks := false }, kinds := [], alts := [], laidByText := true, laidKinds := [.data], laidTests := true, laidLooks := .later }
def BillEarlierCardSaid : Prop := Claim7.holds Tryd.pinned (.plain (OpenSpec.ofChange billEarlierSpec)) billEarlierCard

/-- THE TIED CARD OF 'tollwaylaw34.BillCapped'. -/
def billCappedCard : Claim7 := { stood := { row := billCappedRow, standIns := [], harness := (true, "c948e859963a234cbec449290cd7758fa7de30a0157f77e881f28a8059854f8f"), looks := false }, kinds := [], alts := [], laidByText := true, laidKinds := [.data], laidTests := true, laidLooks := .later }
def BillCappedCardSaid : Prop := Claim7.holds Tryd.pinned (.plain (OpenSpec.ofChange billCappedSpec)) billCappedCard

/-- THE TIED CARD OF 'tollwaylaw34.BillTotals'. -/
def billTotalsCard : Claim7 := { stood := { row := billTotalsRow, standIns := [], harness := (true, "c948e859963a234cbec449290cd7758fa7de30a0157f77e881f28a8059854f8f"), looks := false }, kinds := [], alts := [], laidByText := true, laidKinds := [.data], laidTests := true, laidLooks := .later }
def BillTotalsCardSaid : Prop := Claim7.holds Tryd.pinned (.plain (OpenSpec.ofChange billTotalsSpec)) billTotalsCard

/-- THE TIED CARD OF 'tollwaylaw34.BillDays'. -/
def billDaysCard : Claim7 := { stood := { row := billDaysRow, standIns := [], harness := (true, "c948e859963a234cbec449290cd7758fa7de30a0157f77e881f28a8059854f8f"), looks := false }, kinds := [], alts := [], laidByText := true, laidKinds := [.data], laidTests := true, laidLooks := .later }
def BillDaysCardSaid : Prop := Claim7.holds Tryd.pinned (.plain (OpenSpec.ofChange billDaysSpec)) billDaysCard

/-- THE TIED CARD OF 'tollwaylaw34.BillKeeps'. -/
def billKeepsCard : Claim7 := { stood := { row := billKeepsRow, standIns := [], harness := (true, "c948e859963a234cbec449290cd7758fa7de30a0157f77e881f28a8059854f8f"), looks := false }, kinds := [], alts := [], laidByText := true, laidKinds := [.data], laidTests := true, laidLooks := .later }
def BillKeepsCardSaid : Prop := Claim7.holds Tryd.pinned (.plain (OpenSpec.ofChange billKeepsSpec)) billKeepsCard

/-- THE TIED CARD OF 'tollwaylaw34.BillAgain'. -/
def billAgainCard : Claim7 := { stood := { row := billAgainRow, standIns := [], harness := (true, "c948e859963a234cbec449290cd7758fa7de30a0157f77e881f28a8059854f8f"), looks := false }, kinds := [], alts := [], laidByText := true, laidKinds := [.data], laidTests := true, laidLooks := .later }
def BillAgainCardSaid : Prop := Claim7.holds Tryd.pinned (.plain (OpenSpec.ofChange billAgainSpec)) billAgainCard

/-- THE TIED CARD OF 'tollwaylaw34.BillOnce'. -/
def billOnceCard : Claim7 := { stood := { row := billOnceRow, standIns := [], harness := (true, "c948e859963a234cbec449290cd7758fa7de30a0157f77e881f28a8059854f8f"), looks := false }, kinds := [], alts := [], laidByText := true, laidKinds := [.data], laidTests := true, laidLooks := .later }
def BillOnceCardSaid : Prop := Claim7.holds Tryd.pinned (.plain (OpenSpec.ofChange billOnceSpec)) billOnceCard

/-- THE TIED CARD OF 'tollwaylaw34.BillSums'. -/
def billSumsCard : Claim7 := { stood := { row := billSumsRow, standIns := [], harness := (true, "c948e859963a234cbec449290cd7758fa7de30a0157f77e881f28a8059854f8f"), looks := false }, kinds := [], alts := [], laidByText := true, laidKinds := [.data], laidTests := true, laidLooks := .later }
def BillSumsCardSaid : Prop := Claim7.holds Tryd.pinned (.plain (OpenSpec.ofChange billSumsSpec)) billSumsCard

/-- THE SECOND FORM's CARD OF 'tollwaylaw34.BillMonths'. -/
def billMonthsUptoCard : Claim7 := { stood := { row := billMonthsUptoRow, standIns := [], harness := (true, "c948e859963a234cbec449290cd7758fa7de30a0157f77e881f28a8059854f8f"), looks := false }, kinds := [], alts := [], laidByText := true, laidKinds := [.data], laidTests := true, laidLooks := .later }
def BillMonthsUptoCardSaid : Prop := Claim7.holds Tryd.pinned (.plain (OpenSpec.upto billMonthsSpec)) billMonthsUptoCard

/-- THE SECOND FORM's CARD OF 'tollwaylaw34.BillEarlier'. -/
def billEarlierUptoCard : Claim7 := { stood := { row := billEarlierUptoRow, standIns := [], harness := (true, "c948e859963a234cbec449290cd7758fa7de30a0157f77e881f28a8059854f8f"), looks := false }, kinds := [], alts := [], laidByText := true, laidKinds := [.data], laidTests := true, laidLooks := .later }
def BillEarlierUptoCardSaid : Prop := Claim7.holds Tryd.pinned (.plain (OpenSpec.upto billEarlierSpec)) billEarlierUptoCard

/-- THE SECOND FORM's CARD OF 'tollwaylaw34.BillCapped'. -/
def billCappedUptoCard : Claim7 := { stood := { row := billCappedUptoRow, standIns := [], harness := (true, "c948e859963a234cbec449290cd7758fa7de30a0157f77e881f28a8059854f8f"), looks := false }, kinds := [], alts := [], laidByText := true, laidKinds := [.data], laidTests := true, laidLooks := .later }
def BillCappedUptoCardSaid : Prop := Claim7.holds Tryd.pinned (.plain (OpenSpec.upto billCappedSpec)) billCappedUptoCard

/-- THE SECOND FORM's CARD OF 'tollwaylaw34.BillTotals'. -/
def billTotalsUptoCard : Claim7 := { stood := { row := billTotalsUptoRow, standIns := [], harness := (true, "c948e859963a234cbec449290cd7758fa7de30a0157f77e881f28a8059854f8f"), looks := false }, kinds := [], alts := [], laidByText := true, laidKinds := [.data], laidTests := true, laidLooks := .later }
def BillTotalsUptoCardSaid : Prop := Claim7.holds Tryd.pinned (.plain (OpenSpec.upto billTotalsSpec)) billTotalsUptoCard

/-- THE SECOND FORM's CARD OF 'tollwaylaw34.BillDays'. -/
def billDaysUptoCard : Claim7 := { stood := { row := billDaysUptoRow, standIns := [], harness := (true, "c948e859963a234cbec449290cd7758fa7de30a0157f77e881f28a8059854f8f"), looks := false }, kinds := [], alts := [], laidByText := true, laidKinds := [.data], laidTests := true, laidLooks := .later }
def BillDaysUptoCardSaid : Prop := Claim7.holds Tryd.pinned (.plain (OpenSpec.upto billDaysSpec)) billDaysUptoCard

/-- THE SECOND FORM's CARD OF 'tollwaylaw34.BillKeeps'. -/
def billKeepsUptoCard : Claim7 := { stood := { row := billKeepsUptoRow, standIns := [], harness := (true, "c948e859963a234cbec449290cd7758fa7de30a0157f77e881f28a8059854f8f"), looks := false }, kinds := [], alts := [], laidByText := true, laidKinds := [.data], laidTests := true, laidLooks := .later }
def BillKeepsUptoCardSaid : Prop := Claim7.holds Tryd.pinned (.plain (OpenSpec.upto billKeepsSpec)) billKeepsUptoCard

/-- THE SECOND FORM's CARD OF 'tollwaylaw34.BillAgain'. -/
def billAgainUptoCard : Claim7 := { stood := { row := billAgainUptoRow, standIns := [], harness := (true, "c948e859963a234cbec449290cd7758fa7de30a0157f77e881f28a8059854f8f"), looks := false }, kinds := [], alts := [], laidByText := true, laidKinds := [.data], laidTests := true, laidLooks := .later }
def BillAgainUptoCardSaid : Prop := Claim7.holds Tryd.pinned (.plain (OpenSpec.upto billAgainSpec)) billAgainUptoCard

/-- THE SECOND FORM's CARD OF 'tollwaylaw34.BillOnce'. -/
def billOnceUptoCard : Claim7 := { stood := { row := billOnceUptoRow, standIns := [], harness := (true, "c948e859963a234cbec449290cd7758fa7de30a0157f77e881f28a8059854f8f"), looks := false }, kinds := [], alts := [], laidByText := true, laidKinds := [.data], laidTests := true, laidLooks := .later }
def BillOnceUptoCardSaid : Prop := Claim7.holds Tryd.pinned (.plain (OpenSpec.upto billOnceSpec)) billOnceUptoCard

/-- THE SECOND FORM's CARD OF 'tollwaylaw34.BillSums'. -/
def billSumsUptoCard : Claim7 := { stood := { row := billSumsUptoRow, standIns := [], harness := (true, "c948e859963a234cbec449290cd7758fa7de30a0157f77e881f28a8059854f8f"), looks := false }, kinds := [], alts := [], laidByText := true, laidKinds := [.data], laidTests := true, laidLooks := .later }
def BillSumsUptoCardSaid : Prop := Claim7.holds Tryd.pinned (.plain (OpenSpec.upto billSumsSpec)) billSumsUptoCard
end Rows
end Go.Proofs.YtlnnbkpcnhlfcaaDoor
