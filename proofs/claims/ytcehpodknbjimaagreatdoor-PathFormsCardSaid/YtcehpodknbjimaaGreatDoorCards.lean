/-
  DERIVED. GIVEN WITH THE SEED: THE CARDS: each row of YtcehpodknbjimaaGreatDoorRows.lean that lists a variable, with what it lists TIED to the program's text (the seventh form; the later family's looks); each row that meets fmt, with fmt's text TOLD by the authors' own Lean function (tested against real Go, not proved from fmt's source: count such statements apart). THE CARD IS WHAT COUNTS. Prove the row's statement (the work); the ties are given (YtcehpodknbjimaaGreatDoorTie.lean); close each card by the builder's one call (the guide's Derived/Test/ToyasCard.lean, 'card_holds'). Laid BY PROGRAM, IN A SANDBOX (cutbox-door.mjs). By AI agents, Wed Nov 11 2026. No macro, syntax, notation, axiom, sorry.
-/
import Derived.Test.YtcehpodknbjimaaGreatDoorRows
import GoSem.ClaimSeven
namespace Go.Proofs.YtcehpodknbjimaaGreatDoor
namespace Rows

/-- THE TIED CARD OF 'procliticlaw25.PathForms'. -/
def pathFormsCard : Claim7 := { stood := { row := pathFormsRow, standIns := [], harness := (true, "87c2ca446848f4c3acc36524f0a222ed82901a657840907e9f5f8df3c1088253"), looks := false }, kinds := [], alts := [], laidByText := true, laidKinds := [.data, .pinned], laidTests := true, laidLooks := .later }
def PathFormsCardSaid : Prop := Claim7.holds Tryz.pinned (.plain (OpenSpec.ofChange pathFormsSpec)) pathFormsCard

/-- THE SECOND FORM's CARD OF 'procliticlaw25.PathForms'. -/
def pathFormsUptoCard : Claim7 := { stood := { row := pathFormsUptoRow, standIns := [], harness := (true, "87c2ca446848f4c3acc36524f0a222ed82901a657840907e9f5f8df3c1088253"), looks := false }, kinds := [], alts := [], laidByText := true, laidKinds := [.data, .pinned], laidTests := true, laidLooks := .later }
def PathFormsUptoCardSaid : Prop := Claim7.holds Tryz.pinned (.plain (OpenSpec.upto pathFormsSpec)) pathFormsUptoCard
end Rows
end Go.Proofs.YtcehpodknbjimaaGreatDoor
