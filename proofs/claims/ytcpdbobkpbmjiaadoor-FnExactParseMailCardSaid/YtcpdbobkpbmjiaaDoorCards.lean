/-
  DERIVED. GIVEN WITH THE SEED: THE CARDS: each row of YtcpdbobkpbmjiaaDoorRows.lean that lists a variable, with what it lists TIED to the program's text (the seventh form; the later family's looks); each row that meets fmt, with fmt's text TOLD by the authors' own Lean function (tested against real Go, not proved from fmt's source: count such statements apart). THE CARD IS WHAT COUNTS. Prove the row's statement (the work); the ties are given (YtcpdbobkpbmjiaaDoorTie.lean); close each card by the builder's one call (the guide's Derived/Test/ToyasCard.lean, 'card_holds'). Laid BY PROGRAM, IN A SANDBOX (cutbox-door.mjs). By AI agents, Wed Nov 11 2026. No macro, syntax, notation, axiom, sorry.
-/
import Derived.Test.YtcpdbobkpbmjiaaDoorRows
import GoSem.ClaimSeven
namespace Go.Proofs.YtcpdbobkpbmjiaaDoor
namespace Rows

/-- THE TIED CARD OF 'laws.FnExactMailLines'. -/
def fnExactMailLinesCard : Claim7 := { stood := { row := fnExactMailLinesRow, standIns := [], harness := (true, "5285319dc027c6eabf50e45587791f7f89423028c6e3bb07ffebd306b96e3603"), looks := false }, kinds := [], alts := [], laidByText := true, laidKinds := [.data, .pinned], laidTests := true, laidLooks := .later }
def FnExactMailLinesCardSaid : Prop := Claim7.holds Tryd.pinned (.plain (OpenSpec.ofChange fnExactMailLinesSpec)) fnExactMailLinesCard

/-- THE TIED CARD OF 'laws.FnExactMailPart'. -/
def fnExactMailPartCard : Claim7 := { stood := { row := fnExactMailPartRow, standIns := [], harness := (true, "5285319dc027c6eabf50e45587791f7f89423028c6e3bb07ffebd306b96e3603"), looks := false }, kinds := [], alts := [], laidByText := true, laidKinds := [.data, .pinned], laidTests := true, laidLooks := .later }
def FnExactMailPartCardSaid : Prop := Claim7.holds Tryd.pinned (.plain (OpenSpec.ofChange fnExactMailPartSpec)) fnExactMailPartCard

/-- THE TIED CARD OF 'laws.FnExactParseMail'. -/
def fnExactParseMailCard : Claim7 := { stood := { row := fnExactParseMailRow, standIns := [], harness := (true, "5285319dc027c6eabf50e45587791f7f89423028c6e3bb07ffebd306b96e3603"), looks := false }, kinds := [], alts := [], laidByText := true, laidKinds := [.data, .pinned], laidTests := true, laidLooks := .later }
def FnExactParseMailCardSaid : Prop := Claim7.holds Tryd.pinned (.plain (OpenSpec.ofChange fnExactParseMailSpec)) fnExactParseMailCard

/-- THE SECOND FORM's CARD OF 'laws.FnExactMailLines'. -/
def fnExactMailLinesUptoCard : Claim7 := { stood := { row := fnExactMailLinesUptoRow, standIns := [], harness := (true, "5285319dc027c6eabf50e45587791f7f89423028c6e3bb07ffebd306b96e3603"), looks := false }, kinds := [], alts := [], laidByText := true, laidKinds := [.data, .pinned], laidTests := true, laidLooks := .later }
def FnExactMailLinesUptoCardSaid : Prop := Claim7.holds Tryd.pinned (.plain (OpenSpec.upto fnExactMailLinesSpec)) fnExactMailLinesUptoCard

/-- THE SECOND FORM's CARD OF 'laws.FnExactMailPart'. -/
def fnExactMailPartUptoCard : Claim7 := { stood := { row := fnExactMailPartUptoRow, standIns := [], harness := (true, "5285319dc027c6eabf50e45587791f7f89423028c6e3bb07ffebd306b96e3603"), looks := false }, kinds := [], alts := [], laidByText := true, laidKinds := [.data, .pinned], laidTests := true, laidLooks := .later }
def FnExactMailPartUptoCardSaid : Prop := Claim7.holds Tryd.pinned (.plain (OpenSpec.upto fnExactMailPartSpec)) fnExactMailPartUptoCard

/-- THE SECOND FORM's CARD OF 'laws.FnExactParseMail'. -/
def fnExactParseMailUptoCard : Claim7 := { stood := { row := fnExactParseMailUptoRow, standIns := [], harness := (true, "5285319dc027c6eabf50e45587791f7f89423028c6e3bb07ffebd306b96e3603"), looks := false }, kinds := [], alts := [], laidByText := true, laidKinds := [.data, .pinned], laidTests := true, laidLooks := .later }
def FnExactParseMailUptoCardSaid : Prop := Claim7.holds Tryd.pinned (.plain (OpenSpec.upto fnExactParseMailSpec)) fnExactParseMailUptoCard
end Rows
end Go.Proofs.YtcpdbobkpbmjiaaDoor
