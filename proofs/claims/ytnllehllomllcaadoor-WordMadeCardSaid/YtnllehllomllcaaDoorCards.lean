/-
  DERIVED. GIVEN WITH THE SEED: THE CARDS: each row of YtnllehllomllcaaDoorRows.lean that lists a variable, with what it lists TIED to the program's text (the seventh form; the later family's looks); each row that meets fmt, with fmt's text TOLD by the authors' own Lean function (tested against real Go, not proved from fmt's source: count such statements apart). THE CARD IS WHAT COUNTS. Prove the row's statement (the work); the ties are given (YtnllehllomllcaaDoorTie.lean); close each card by the builder's one call (the guide's Derived/Test/ToyasCard.lean, 'card_holds'). Laid BY PROGRAM, IN A SANDBOX (cutbox-door.mjs). By AI agents, Wed Nov 11 2026. No macro, syntax, notation, axiom, sorry.
-/
import Derived.Test.YtnllehllomllcaaDoorRows
import GoSem.ClaimSeven
namespace Go.Proofs.YtnllehllomllcaaDoor
namespace Rows

/-- THE TIED CARD OF 'procliticlaw7.WordMade'. -/
def wordMadeCard : Claim7 := { stood := { row := wordMadeRow, standIns := [], harness := (true, "607c9b384a77a7dad9bf3666a43fb2e6e154a904a6e7f5433663baf317c5a2d5"), looks := true }, kinds := [], alts := [], laidByText := true, laidKinds := [.data, .data, .data, .data, .sentinel, .sentinel, .pinned], laidTests := true, laidLooks := .later }
def WordMadeCardSaid : Prop := Claim7.holds Tryd.pinned (.plain (OpenSpec.ofChange wordMadeSpec)) wordMadeCard

/-- THE SECOND FORM's CARD OF 'procliticlaw7.WordMade'. -/
def wordMadeUptoCard : Claim7 := { stood := { row := wordMadeUptoRow, standIns := [], harness := (true, "607c9b384a77a7dad9bf3666a43fb2e6e154a904a6e7f5433663baf317c5a2d5"), looks := true }, kinds := [], alts := [], laidByText := true, laidKinds := [.data, .data, .data, .data, .sentinel, .sentinel, .pinned], laidTests := true, laidLooks := .later }
def WordMadeUptoCardSaid : Prop := Claim7.holds Tryd.pinned (.plain (OpenSpec.upto wordMadeSpec)) wordMadeUptoCard
end Rows
end Go.Proofs.YtnllehllomllcaaDoor
