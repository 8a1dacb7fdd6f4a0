/-
  DERIVED. GIVEN WITH THE SEED: THE CARDS: each row of YtcmifdcgmalnlaaDoorRows.lean that lists a variable, with what it lists TIED to the program's text (the seventh form; the later family's looks); each row that meets fmt, with fmt's text TOLD by the authors' own Lean function (tested against real Go, not proved from fmt's source: count such statements apart). THE CARD IS WHAT COUNTS. Prove the row's statement (the work); the ties are given (YtcmifdcgmalnlaaDoorTie.lean); close each card by the builder's one call (the guide's Derived/Test/ToyasCard.lean, 'card_holds'). Laid BY PROGRAM, IN A SANDBOX (cutbox-door.mjs). By AI agents, Wed Nov 11 2026. No macro, syntax, notation, axiom, sorry.
-/
import Derived.Test.YtcmifdcgmalnlaaDoorRows
import GoSem.ClaimSeven
namespace Go.Proofs.YtcmifdcgmalnlaaDoor
namespace Rows

/-- THE TIED CARD OF 'laws.FnExactReadFlags'. -/
def fnExactReadFlagsCard : Claim7 := { stood := { row := fnExactReadFlagsRow, standIns := [], harness := (true, "289fdc101c62de1d49c696c153a89d2ff20d051d8de580dc153cf42ebc376e3b"), looks := true }, kinds := [], alts := [], laidByText := true, laidKinds := [.data, .pinned], laidTests := true, laidLooks := .later }
def FnExactReadFlagsCardSaid : Prop := Claim7.holds Tryd.pinned (.plain (OpenSpec.ofChange fnExactReadFlagsSpec)) fnExactReadFlagsCard

/-- THE TIED CARD OF 'laws.FnExactListWords'. -/
def fnExactListWordsCard : Claim7 := { stood := { row := fnExactListWordsRow, standIns := [], harness := (true, "289fdc101c62de1d49c696c153a89d2ff20d051d8de580dc153cf42ebc376e3b"), looks := true }, kinds := [], alts := [], laidByText := true, laidKinds := [.data, .pinned], laidTests := true, laidLooks := .later }
def FnExactListWordsCardSaid : Prop := Claim7.holds Tryd.pinned (.plain (OpenSpec.ofChange fnExactListWordsSpec)) fnExactListWordsCard

/-- THE TIED CARD OF 'laws.FnExactSetText'. -/
def fnExactSetTextCard : Claim7 := { stood := { row := fnExactSetTextRow, standIns := [], harness := (true, "289fdc101c62de1d49c696c153a89d2ff20d051d8de580dc153cf42ebc376e3b"), looks := true }, kinds := [], alts := [], laidByText := true, laidKinds := [.data, .data, .data], laidTests := true, laidLooks := .later }
def FnExactSetTextCardSaid : Prop := Claim7.holds Tryd.pinned (.plain (OpenSpec.ofChange fnExactSetTextSpec)) fnExactSetTextCard

/-- THE TIED CARD OF 'laws.FnFlagTexts'. -/
def fnFlagTextsCard : Claim7 := { stood := { row := fnFlagTextsRow, standIns := [], harness := (true, "289fdc101c62de1d49c696c153a89d2ff20d051d8de580dc153cf42ebc376e3b"), looks := true }, kinds := [], alts := [], laidByText := true, laidKinds := [.data, .pinned], laidTests := true, laidLooks := .later }
def FnFlagTextsCardSaid : Prop := Claim7.holds Tryd.pinned (.plain (OpenSpec.ofChange fnFlagTextsSpec)) fnFlagTextsCard

/-- THE TIED CARD OF 'laws.FnExactQuoteText'. -/
def fnExactQuoteTextCard : Claim7 := { stood := { row := fnExactQuoteTextRow, standIns := [], harness := (true, "289fdc101c62de1d49c696c153a89d2ff20d051d8de580dc153cf42ebc376e3b"), looks := true }, kinds := [], alts := [], laidByText := true, laidKinds := [.data, .data, .data], laidTests := true, laidLooks := .later }
def FnExactQuoteTextCardSaid : Prop := Claim7.holds Tryd.pinned (.plain (OpenSpec.ofChange fnExactQuoteTextSpec)) fnExactQuoteTextCard

/-- THE TIED CARD OF 'laws.FnExactTakeCommand'. -/
def fnExactTakeCommandCard : Claim7 := { stood := { row := fnExactTakeCommandRow, standIns := [], harness := (true, "289fdc101c62de1d49c696c153a89d2ff20d051d8de580dc153cf42ebc376e3b"), looks := true }, kinds := [], alts := [], laidByText := true, laidKinds := [.data, .data, .data, .sentinel, .sentinel], laidTests := true, laidLooks := .later }
def FnExactTakeCommandCardSaid : Prop := Claim7.holds Tryd.pinned (.plain (OpenSpec.ofChange fnExactTakeCommandSpec)) fnExactTakeCommandCard

/-- THE TIED CARD OF 'laws.FnTake'. -/
def fnTakeCard : Claim7 := { stood := { row := fnTakeRow, standIns := [], harness := (true, "289fdc101c62de1d49c696c153a89d2ff20d051d8de580dc153cf42ebc376e3b"), looks := true }, kinds := [], alts := [], laidByText := true, laidKinds := [.data, .data, .data, .sentinel, .sentinel], laidTests := true, laidLooks := .later }
def FnTakeCardSaid : Prop := Claim7.holds Tryd.pinned (.plain (OpenSpec.ofChange fnTakeSpec)) fnTakeCard

/-- THE TIED CARD OF 'laws.FnExactReadSet'. -/
def fnExactReadSetCard : Claim7 := { stood := { row := fnExactReadSetRow, standIns := [], harness := (true, "289fdc101c62de1d49c696c153a89d2ff20d051d8de580dc153cf42ebc376e3b"), looks := true }, kinds := [], alts := [], laidByText := true, laidKinds := [.data, .data, .data, .data, .sentinel, .sentinel, .pinned], laidTests := true, laidLooks := .later }
def FnExactReadSetCardSaid : Prop := Claim7.holds Tryd.pinned (.plain (OpenSpec.ofChange fnExactReadSetSpec)) fnExactReadSetCard

/-- THE TIED CARD OF 'laws.FnSets'. -/
def fnSetsCard : Claim7 := { stood := { row := fnSetsRow, standIns := [], harness := (true, "289fdc101c62de1d49c696c153a89d2ff20d051d8de580dc153cf42ebc376e3b"), looks := true }, kinds := [], alts := [], laidByText := true, laidKinds := [.data, .data, .data, .data, .sentinel, .sentinel, .pinned], laidTests := true, laidLooks := .later }
def FnSetsCardSaid : Prop := Claim7.holds Tryd.pinned (.plain (OpenSpec.ofChange fnSetsSpec)) fnSetsCard

/-- THE TIED CARD OF 'laws.FnExactReadSearch'. -/
def fnExactReadSearchCard : Claim7 := { stood := { row := fnExactReadSearchRow, standIns := [], harness := (true, "289fdc101c62de1d49c696c153a89d2ff20d051d8de580dc153cf42ebc376e3b"), looks := true }, kinds := [], alts := [], laidByText := true, laidKinds := [.data, .data, .data, .data, .sentinel, .sentinel, .pinned], laidTests := true, laidLooks := .later }
def FnExactReadSearchCardSaid : Prop := Claim7.holds Tryd.pinned (.plain (OpenSpec.ofChange fnExactReadSearchSpec)) fnExactReadSearchCard

/-- THE SECOND FORM's CARD OF 'laws.FnExactReadFlags'. -/
def fnExactReadFlagsUptoCard : Claim7 := { stood := { row := fnExactReadFlagsUptoRow, standIns := [], harness := (true, "289fdc101c62de1d49c696c153a89d2ff20d051d8de580dc153cf42ebc376e3b"), looks := true }, kinds := [], alts := [], laidByText := true, laidKinds := [.data, .pinned], laidTests := true, laidLooks := .later }
def FnExactReadFlagsUptoCardSaid : Prop := Claim7.holds Tryd.pinned (.plain (OpenSpec.upto fnExactReadFlagsSpec)) fnExactReadFlagsUptoCard

/-- THE SECOND FORM's CARD OF 'laws.FnExactListWords'. -/
def fnExactListWordsUptoCard : Claim7 := { stood := { row := fnExactListWordsUptoRow, standIns := [], harness := (true, "289fdc101c62de1d49c696c153a89d2ff20d051d8de580dc153cf42ebc376e3b"), looks := true }, kinds := [], alts := [], laidByText := true, laidKinds := [.data, .pinned], laidTests := true, laidLooks := .later }
def FnExactListWordsUptoCardSaid : Prop := Claim7.holds Tryd.pinned (.plain (OpenSpec.upto fnExactListWordsSpec)) fnExactListWordsUptoCard

/-- THE SECOND FORM's CARD OF 'laws.FnExactSetText'. -/
def fnExactSetTextUptoCard : Claim7 := { stood := { row := fnExactSetTextUptoRow, standIns := [], harness := (true, "289fdc101c62de1d49c696c153a89d2ff20d051d8de580dc153cf42ebc376e3b"), looks := true }, kinds := [], alts := [], laidByText := true, laidKinds := [.data, .data, .data], laidTests := true, laidLooks := .later }
def FnExactSetTextUptoCardSaid : Prop := Claim7.holds Tryd.pinned (.plain (OpenSpec.upto fnExactSetTextSpec)) fnExactSetTextUptoCard

/-- THE SECOND FORM's CARD OF 'laws.FnFlagTexts'. -/
def fnFlagTextsUptoCard : Claim7 := { stood := { row := fnFlagTextsUptoRow, standIns := [], harness := (true, "289fdc101c62de1d49c696c153a89d2ff20d051d8de580dc153cf42ebc376e3b"), looks := true }, kinds := [], alts := [], laidByText := true, laidKinds := [.data, .pinned], laidTests := true, laidLooks := .later }
def FnFlagTextsUptoCardSaid : Prop := Claim7.holds Tryd.pinned (.plain (OpenSpec.upto fnFlagTextsSpec)) fnFlagTextsUptoCard

/-- THE SECOND FORM's CARD OF 'laws.FnExactQuoteText'. -/
def fnExactQuoteTextUptoCard : Claim7 := { stood := { row := fnExactQuoteTextUptoRow, standIns := [], harness := (true, "289fdc101c62de1d49c696c153a89d2ff20d051d8de580dc153cf42ebc376e3b"), looks := true }, kinds := [], alts := [], laidByText := true, laidKinds := [.data, .data, .data], laidTests := true, laidLooks := .later }
def FnExactQuoteTextUptoCardSaid : Prop := Claim7.holds Tryd.pinned (.plain (OpenSpec.upto fnExactQuoteTextSpec)) fnExactQuoteTextUptoCard

/-- THE SECOND FORM's CARD OF 'laws.FnExactTakeCommand'. -/
def fnExactTakeCommandUptoCard : Claim7 := { stood := { row := fnExactTakeCommandUptoRow, standIns := [], harness := (true, "289fdc101c62de1d49c696c153a89d2ff20d051d8de580dc153cf42ebc376e3b"), looks := true }, kinds := [], alts := [], laidByText := true, laidKinds := [.data, .data, .data, .sentinel, .sentinel], laidTests := true, laidLooks := .later }
def FnExactTakeCommandUptoCardSaid : Prop := Claim7.holds Tryd.pinned (.plain (OpenSpec.upto fnExactTakeCommandSpec)) fnExactTakeCommandUptoCard

/-- THE SECOND FORM's CARD OF 'laws.FnTake'. -/
def fnTakeUptoCard : Claim7 := { stood := { row := fnTakeUptoRow, standIns := [], harness := (true, "289fdc101c62de1d49c696c153a89d2ff20d051d8de580dc153cf42ebc376e3b"), looks := true }, kinds := [], alts := [], laidByText := true, laidKinds := [.data, .data, .data, .sentinel, .sentinel], laidTests := true, laidLooks := .later }
def FnTakeUptoCardSaid : Prop := Claim7.holds Tryd.pinned (.plain (OpenSpec.upto fnTakeSpec)) fnTakeUptoCard

/-- THE SECOND FORM's CARD OF 'laws.FnExactReadSet'. -/
def fnExactReadSetUptoCard : Claim7 := { stood := { row := fnExactReadSetUptoRow, standIns := [], harness := (true, "289fdc101c62de1d49c696c153a89d2ff20d051d8de580dc153cf42ebc376e3b"), looks := true }, kinds := [], alts := [], laidByText := true, laidKinds := [.data, .data, .data, .data, .sentinel, .sentinel, .pinned], laidTests := true, laidLooks := .later }
def FnExactReadSetUptoCardSaid : Prop := Claim7.holds Tryd.pinned (.plain (OpenSpec.upto fnExactReadSetSpec)) fnExactReadSetUptoCard

/-- THE SECOND FORM's CARD OF 'laws.FnSets'. -/
def fnSetsUptoCard : Claim7 := { stood := { row := fnSetsUptoRow, standIns := [], harness := (true, "289fdc101c62de1d49c696c153a89d2ff20d051d8de580dc153cf42ebc376e3b"), looks := true }, kinds := [], alts := [], laidByText := true, laidKinds := [.data, .data, .data, .data, .sentinel, .sentinel, .pinned], laidTests := true, laidLooks := .later }
def FnSetsUptoCardSaid : Prop := Claim7.holds Tryd.pinned (.plain (OpenSpec.upto fnSetsSpec)) fnSetsUptoCard

/-- THE SECOND FORM's CARD OF 'laws.FnExactReadSearch'. -/
def fnExactReadSearchUptoCard : Claim7 := { stood := { row := fnExactReadSearchUptoRow, standIns := [], harness := (true, "289fdc101c62de1d49c696c153a89d2ff20d051d8de580dc153cf42ebc376e3b"), looks := true }, kinds := [], alts := [], laidByText := true, laidKinds := [.data, .data, .data, .data, .sentinel, .sentinel, .pinned], laidTests := true, laidLooks := .later }
def FnExactReadSearchUptoCardSaid : Prop := Claim7.holds Tryd.pinned (.plain (OpenSpec.upto fnExactReadSearchSpec)) fnExactReadSearchUptoCard
end Rows
end Go.Proofs.YtcmifdcgmalnlaaDoor
