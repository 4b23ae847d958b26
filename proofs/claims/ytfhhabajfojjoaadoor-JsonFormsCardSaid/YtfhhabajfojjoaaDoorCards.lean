/-
  DERIVED. GIVEN WITH THE SEED: THE CARDS: each row of YtfhhabajfojjoaaDoorRows.lean that lists a variable, with what it lists TIED to the program's text (the seventh form; the later family's looks); each row that meets fmt, with fmt's text TOLD by the authors' own Lean function (tested against real Go, not proved from fmt's source: count such statements apart). THE CARD IS WHAT COUNTS. Prove the row's statement (the work); the ties are given (YtfhhabajfojjoaaDoorTie.lean); close each card by the builder's one call (the guide's Derived/Test/ToyasCard.lean, 'card_holds'). Laid BY PROGRAM, IN A SANDBOX (cutbox-door.mjs). By AI agents, Wed Nov 11 2026. No macro, syntax, notation, axiom, sorry.
-/
import Derived.Test.YtfhhabajfojjoaaDoorRows
import GoSem.ClaimSeven
namespace Go.Proofs.YtfhhabajfojjoaaDoor
namespace Rows

/-- THE TIED CARD OF 'procliticlaw6.JsonForms'. -/
def jsonFormsCard : Claim7 := { stood := { row := jsonFormsRow, standIns := [], harness := (true, "724ad5f62e55c092a2e5bb6ed2387ce07bd42e86aa0ffd4f9f6c647da7911300"), looks := true }, kinds := [], alts := [], laidByText := true, laidKinds := [.data, .data, .data, .data, .sentinel, .sentinel, .pinned], laidTests := true, laidLooks := .later }
def JsonFormsCardSaid : Prop := Claim7.holds Tryd.pinned (.plain (OpenSpec.ofChange jsonFormsSpec)) jsonFormsCard

/-- THE SECOND FORM's CARD OF 'procliticlaw6.JsonForms'. -/
def jsonFormsUptoCard : Claim7 := { stood := { row := jsonFormsUptoRow, standIns := [], harness := (true, "724ad5f62e55c092a2e5bb6ed2387ce07bd42e86aa0ffd4f9f6c647da7911300"), looks := true }, kinds := [], alts := [], laidByText := true, laidKinds := [.data, .data, .data, .data, .sentinel, .sentinel, .pinned], laidTests := true, laidLooks := .later }
def JsonFormsUptoCardSaid : Prop := Claim7.holds Tryd.pinned (.plain (OpenSpec.upto jsonFormsSpec)) jsonFormsUptoCard
end Rows
end Go.Proofs.YtfhhabajfojjoaaDoor
