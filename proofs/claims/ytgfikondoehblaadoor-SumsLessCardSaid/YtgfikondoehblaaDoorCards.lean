/-
  DERIVED. GIVEN WITH THE SEED: THE CARDS: each row of YtgfikondoehblaaDoorRows.lean that lists a variable, with what it lists TIED to the program's text (the seventh form; the later family's looks); each row that meets fmt, with fmt's text TOLD by the authors' own Lean function (tested against real Go, not proved from fmt's source: count such statements apart). THE CARD IS WHAT COUNTS. Prove the row's statement (the work); the ties are given (YtgfikondoehblaaDoorTie.lean); close each card by the builder's one call (the guide's Derived/Test/ToyasCard.lean, 'card_holds'). Laid BY PROGRAM, IN A SANDBOX (cutbox-door.mjs). By AI agents, Wed Nov 11 2026. No macro, syntax, notation, axiom, sorry.
-/
import Derived.Test.YtgfikondoehblaaDoorRows
import GoSem.ClaimSeven
namespace Go.Proofs.YtgfikondoehblaaDoor
namespace Rows

/-- THE TIED CARD OF 'cippuslaw03.SumsRestored'. -/
def sumsRestoredCard : Claim7 := { stood := { row := sumsRestoredRow, standIns := [], harness := (true, "2877686ceb53f3110158e312b89e777eeb5c9dcc58b752a159906b46aa175464"), looks := true }, kinds := [], alts := [], laidByText := true, laidKinds := [.data], laidTests := true, laidLooks := .later }
def SumsRestoredCardSaid : Prop := Claim7.holds Tryd.pinned (.plain (OpenSpec.ofChange sumsRestoredSpec)) sumsRestoredCard

/-- THE TIED CARD OF 'cippuslaw03.SumsMoved'. -/
def sumsMovedCard : Claim7 := { stood := { row := sumsMovedRow, standIns := [], harness := (true, "2877686ceb53f3110158e312b89e777eeb5c9dcc58b752a159906b46aa175464"), looks := true }, kinds := [], alts := [], laidByText := true, laidKinds := [.data], laidTests := true, laidLooks := .later }
def SumsMovedCardSaid : Prop := Claim7.holds Tryd.pinned (.plain (OpenSpec.ofChange sumsMovedSpec)) sumsMovedCard

/-- THE TIED CARD OF 'cippuslaw03.SumsShared'. -/
def sumsSharedCard : Claim7 := { stood := { row := sumsSharedRow, standIns := [], harness := (true, "2877686ceb53f3110158e312b89e777eeb5c9dcc58b752a159906b46aa175464"), looks := true }, kinds := [], alts := [], laidByText := true, laidKinds := [.data], laidTests := true, laidLooks := .later }
def SumsSharedCardSaid : Prop := Claim7.holds Tryd.pinned (.plain (OpenSpec.ofChange sumsSharedSpec)) sumsSharedCard

/-- THE TIED CARD OF 'cippuslaw03.SumsLess'. -/
def sumsLessCard : Claim7 := { stood := { row := sumsLessRow, standIns := [], harness := (true, "2877686ceb53f3110158e312b89e777eeb5c9dcc58b752a159906b46aa175464"), looks := true }, kinds := [], alts := [], laidByText := true, laidKinds := [.data], laidTests := true, laidLooks := .later }
def SumsLessCardSaid : Prop := Claim7.holds Tryd.pinned (.plain (OpenSpec.ofChange sumsLessSpec)) sumsLessCard

/-- THE TIED CARD OF 'cippuslaw03.SumsRight'. -/
def sumsRightCard : Claim7 := { stood := { row := sumsRightRow, standIns := [], harness := (true, "2877686ceb53f3110158e312b89e777eeb5c9dcc58b752a159906b46aa175464"), looks := true }, kinds := [], alts := [], laidByText := true, laidKinds := [.data], laidTests := true, laidLooks := .later }
def SumsRightCardSaid : Prop := Claim7.holds Tryd.pinned (.plain (OpenSpec.ofChange sumsRightSpec)) sumsRightCard

/-- THE TIED CARD OF 'cippuslaw03.SumsAll'. -/
def sumsAllCard : Claim7 := { stood := { row := sumsAllRow, standIns := [], harness := (true, "2877686ceb53f3110158e312b89e777eeb5c9dcc58b752a159906b46aa175464"), looks := true }, kinds := [], alts := [], laidByText := true, laidKinds := [.data], laidTests := true, laidLooks := .later }
def SumsAllCardSaid : Prop := Claim7.holds Tryd.pinned (.plain (OpenSpec.ofChange sumsAllSpec)) sumsAllCard

/-- THE TIED CARD OF 'cippuslaw03.SumsNumbers'. -/
def sumsNumbersCard : Claim7 := { stood := { row := sumsNumbersRow, standIns := [], harness := (true, "2877686ceb53f3110158e312b89e777eeb5c9dcc58b752a159906b46aa175464"), looks := true }, kinds := [], alts := [], laidByText := true, laidKinds := [.data], laidTests := true, laidLooks := .later }
def SumsNumbersCardSaid : Prop := Claim7.holds Tryd.pinned (.plain (OpenSpec.ofChange sumsNumbersSpec)) sumsNumbersCard

/-- THE TIED CARD OF 'cippuslaw03.SumsNumerals'. -/
def sumsNumeralsCard : Claim7 := { stood := { row := sumsNumeralsRow, standIns := [], harness := (true, "2877686ceb53f3110158e312b89e777eeb5c9dcc58b752a159906b46aa175464"), looks := true }, kinds := [], alts := [], laidByText := true, laidKinds := [.data], laidTests := true, laidLooks := .later }
def SumsNumeralsCardSaid : Prop := Claim7.holds Tryd.pinned (.plain (OpenSpec.ofChange sumsNumeralsSpec)) sumsNumeralsCard

/-- THE TIED CARD OF 'cippuslaw03.SumsKnown'. -/
def sumsKnownCard : Claim7 := { stood := { row := sumsKnownRow, standIns := [], harness := (true, "2877686ceb53f3110158e312b89e777eeb5c9dcc58b752a159906b46aa175464"), looks := true }, kinds := [], alts := [], laidByText := true, laidKinds := [.data, .data, .data, .data], laidTests := true, laidLooks := .later }
def SumsKnownCardSaid : Prop := Claim7.holds Tryd.pinned (.plain (OpenSpec.ofChange sumsKnownSpec)) sumsKnownCard

/-- THE SECOND FORM's CARD OF 'cippuslaw03.SumsRestored'. -/
def sumsRestoredUptoCard : Claim7 := { stood := { row := sumsRestoredUptoRow, standIns := [], harness := (true, "2877686ceb53f3110158e312b89e777eeb5c9dcc58b752a159906b46aa175464"), looks := true }, kinds := [], alts := [], laidByText := true, laidKinds := [.data], laidTests := true, laidLooks := .later }
def SumsRestoredUptoCardSaid : Prop := Claim7.holds Tryd.pinned (.plain (OpenSpec.upto sumsRestoredSpec)) sumsRestoredUptoCard

/-- THE SECOND FORM's CARD OF 'cippuslaw03.SumsMoved'. -/
def sumsMovedUptoCard : Claim7 := { stood := { row := sumsMovedUptoRow, standIns := [], harness := (true, "2877686ceb53f3110158e312b89e777eeb5c9dcc58b752a159906b46aa175464"), looks := true }, kinds := [], alts := [], laidByText := true, laidKinds := [.data], laidTests := true, laidLooks := .later }
def SumsMovedUptoCardSaid : Prop := Claim7.holds Tryd.pinned (.plain (OpenSpec.upto sumsMovedSpec)) sumsMovedUptoCard

/-- THE SECOND FORM's CARD OF 'cippuslaw03.SumsShared'. -/
def sumsSharedUptoCard : Claim7 := { stood := { row := sumsSharedUptoRow, standIns := [], harness := (true, "2877686ceb53f3110158e312b89e777eeb5c9dcc58b752a159906b46aa175464"), looks := true }, kinds := [], alts := [], laidByText := true, laidKinds := [.data], laidTests := true, laidLooks := .later }
def SumsSharedUptoCardSaid : Prop := Claim7.holds Tryd.pinned (.plain (OpenSpec.upto sumsSharedSpec)) sumsSharedUptoCard

/-- THE SECOND FORM's CARD OF 'cippuslaw03.SumsLess'. -/
def sumsLessUptoCard : Claim7 := { stood := { row := sumsLessUptoRow, standIns := [], harness := (true, "2877686ceb53f3110158e312b89e777eeb5c9dcc58b752a159906b46aa175464"), looks := true }, kinds := [], alts := [], laidByText := true, laidKinds := [.data], laidTests := true, laidLooks := .later }
def SumsLessUptoCardSaid : Prop := Claim7.holds Tryd.pinned (.plain (OpenSpec.upto sumsLessSpec)) sumsLessUptoCard

/-- THE SECOND FORM's CARD OF 'cippuslaw03.SumsRight'. -/
def sumsRightUptoCard : Claim7 := { stood := { row := sumsRightUptoRow, standIns := [], harness := (true, "2877686ceb53f3110158e312b89e777eeb5c9dcc58b752a159906b46aa175464"), looks := true }, kinds := [], alts := [], laidByText := true, laidKinds := [.data], laidTests := true, laidLooks := .later }
def SumsRightUptoCardSaid : Prop := Claim7.holds Tryd.pinned (.plain (OpenSpec.upto sumsRightSpec)) sumsRightUptoCard

/-- THE SECOND FORM's CARD OF 'cippuslaw03.SumsAll'. -/
def sumsAllUptoCard : Claim7 := { stood := { row := sumsAllUptoRow, standIns := [], harness := (true, "2877686ceb53f3110158e312b89e777eeb5c9dcc58b752a159906b46aa175464"), looks := true }, kinds := [], alts := [], laidByText := true, laidKinds := [.data], laidTests := true, laidLooks := .later }
def SumsAllUptoCardSaid : Prop := Claim7.holds Tryd.pinned (.plain (OpenSpec.upto sumsAllSpec)) sumsAllUptoCard

/-- THE SECOND FORM's CARD OF 'cippuslaw03.SumsNumbers'. -/
def sumsNumbersUptoCard : Claim7 := { stood := { row := sumsNumbersUptoRow, standIns := [], harness := (true, "2877686ceb53f3110158e312b89e777eeb5c9dcc58b752a159906b46aa175464"), looks := true }, kinds := [], alts := [], laidByText := true, laidKinds := [.data], laidTests := true, laidLooks := .later }
def SumsNumbersUptoCardSaid : Prop := Claim7.holds Tryd.pinned (.plain (OpenSpec.upto sumsNumbersSpec)) sumsNumbersUptoCard

/-- THE SECOND FORM's CARD OF 'cippuslaw03.SumsNumerals'. -/
def sumsNumeralsUptoCard : Claim7 := { stood := { row := sumsNumeralsUptoRow, standIns := [], harness := (true, "2877686ceb53f3110158e312b89e777eeb5c9dcc58b752a159906b46aa175464"), looks := true }, kinds := [], alts := [], laidByText := true, laidKinds := [.data], laidTests := true, laidLooks := .later }
def SumsNumeralsUptoCardSaid : Prop := Claim7.holds Tryd.pinned (.plain (OpenSpec.upto sumsNumeralsSpec)) sumsNumeralsUptoCard

/-- THE SECOND FORM's CARD OF 'cippuslaw03.SumsKnown'. -/
def sumsKnownUptoCard : Claim7 := { stood := { row := sumsKnownUptoRow, standIns := [], harness := (true, "2877686ceb53f3110158e312b89e777eeb5c9dcc58b752a159906b46aa175464"), looks := true }, kinds := [], alts := [], laidByText := true, laidKinds := [.data, .data, .data, .data], laidTests := true, laidLooks := .later }
def SumsKnownUptoCardSaid : Prop := Claim7.holds Tryd.pinned (.plain (OpenSpec.upto sumsKnownSpec)) sumsKnownUptoCard
end Rows
end Go.Proofs.YtgfikondoehblaaDoor
