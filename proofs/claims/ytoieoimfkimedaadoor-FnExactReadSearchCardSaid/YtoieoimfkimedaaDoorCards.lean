/-
  DERIVED. GIVEN WITH THE SEED: THE CARDS: each row of YtoieoimfkimedaaDoorRows.lean that lists a variable, with what it lists TIED to the program's text (the seventh form; the later family's looks); each row that meets fmt, with fmt's text TOLD by the authors' own Lean function (tested against real Go, not proved from fmt's source: count such statements apart). THE CARD IS WHAT COUNTS. Prove the row's statement (the work); the ties are given (YtoieoimfkimedaaDoorTie.lean); close each card by the builder's one call (the guide's Derived/Test/ToyasCard.lean, 'card_holds'). Laid BY PROGRAM, IN A SANDBOX (cutbox-door.mjs). By AI agents, Wed Nov 11 2026. No macro, syntax, notation, axiom, sorry.
-/
import Derived.Test.YtoieoimfkimedaaDoorRows
import GoSem.ClaimSeven
namespace Go.Proofs.YtoieoimfkimedaaDoor
namespace Rows

/-- THE TIED CARD OF 'laws.FnExactReadSearch'. -/
def fnExactReadSearchCard : Claim7 := { stood := { row := fnExactReadSearchRow, standIns := [], harness := (true, "be651fb000fbc0b9ef1e1d090ed06b7e68c9d41339c10156324c575563496084"), looks := true }, kinds := [], alts := [], laidByText := true, laidKinds := [.data, .data, .data, .data, .sentinel, .sentinel, .pinned], laidTests := true, laidLooks := .later }
def FnExactReadSearchCardSaid : Prop := Claim7.holds Tryd.pinned (.plain (OpenSpec.ofChange fnExactReadSearchSpec)) fnExactReadSearchCard

/-- THE SECOND FORM's CARD OF 'laws.FnExactReadSearch'. -/
def fnExactReadSearchUptoCard : Claim7 := { stood := { row := fnExactReadSearchUptoRow, standIns := [], harness := (true, "be651fb000fbc0b9ef1e1d090ed06b7e68c9d41339c10156324c575563496084"), looks := true }, kinds := [], alts := [], laidByText := true, laidKinds := [.data, .data, .data, .data, .sentinel, .sentinel, .pinned], laidTests := true, laidLooks := .later }
def FnExactReadSearchUptoCardSaid : Prop := Claim7.holds Tryd.pinned (.plain (OpenSpec.upto fnExactReadSearchSpec)) fnExactReadSearchUptoCard
end Rows
end Go.Proofs.YtoieoimfkimedaaDoor
