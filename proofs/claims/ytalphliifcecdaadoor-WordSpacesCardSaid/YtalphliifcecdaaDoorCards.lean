/-
  DERIVED. GIVEN WITH THE SEED: THE CARDS: each row of YtalphliifcecdaaDoorRows.lean that lists a variable, with what it lists TIED to the program's text (the seventh form; the later family's looks); each row that meets fmt, with fmt's text TOLD by the authors' own Lean function (tested against real Go, not proved from fmt's source: count such statements apart). THE CARD IS WHAT COUNTS. Prove the row's statement (the work); the ties are given (YtalphliifcecdaaDoorTie.lean); close each card by the builder's one call (the guide's Derived/Test/ToyasCard.lean, 'card_holds'). Laid BY PROGRAM, IN A SANDBOX (cutbox-door.mjs). By AI agents, Wed Nov 11 2026. No macro, syntax, notation, axiom, sorry.
-/
import Derived.Test.YtalphliifcecdaaDoorRows
import GoSem.ClaimSeven
namespace Go.Proofs.YtalphliifcecdaaDoor
namespace Rows

/-- THE TIED CARD OF 'procliticlaw7.WordSpaces'. -/
def wordSpacesCard : Claim7 := { stood := { row := wordSpacesRow, standIns := [], harness := (true, "9eaeced96570b85ceac41fb17a3eb650faf3b582f797f8450e80b6863e794bcb"), looks := true }, kinds := [], alts := [], laidByText := true, laidKinds := [.data, .data, .data, .data, .sentinel, .sentinel, .pinned], laidTests := true, laidLooks := .later }
def WordSpacesCardSaid : Prop := Claim7.holds Tryd.pinned (.plain (OpenSpec.ofChange wordSpacesSpec)) wordSpacesCard

/-- THE SECOND FORM's CARD OF 'procliticlaw7.WordSpaces'. -/
def wordSpacesUptoCard : Claim7 := { stood := { row := wordSpacesUptoRow, standIns := [], harness := (true, "9eaeced96570b85ceac41fb17a3eb650faf3b582f797f8450e80b6863e794bcb"), looks := true }, kinds := [], alts := [], laidByText := true, laidKinds := [.data, .data, .data, .data, .sentinel, .sentinel, .pinned], laidTests := true, laidLooks := .later }
def WordSpacesUptoCardSaid : Prop := Claim7.holds Tryd.pinned (.plain (OpenSpec.upto wordSpacesSpec)) wordSpacesUptoCard
end Rows
end Go.Proofs.YtalphliifcecdaaDoor
