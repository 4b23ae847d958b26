/-
  DERIVED. GIVEN WITH THE SEED: THE CARDS: each row of YtdanefpnfnippaaGreatDoorRows.lean that lists a variable, with what it lists TIED to the program's text (the seventh form; the later family's looks); each row that meets fmt, with fmt's text TOLD by the authors' own Lean function (tested against real Go, not proved from fmt's source: count such statements apart). THE CARD IS WHAT COUNTS. Prove the row's statement (the work); the ties are given (YtdanefpnfnippaaGreatDoorTie.lean); close each card by the builder's one call (the guide's Derived/Test/ToyasCard.lean, 'card_holds'). Laid BY PROGRAM, IN A SANDBOX (cutbox-door.mjs). By AI agents, Wed Nov 11 2026. No macro, syntax, notation, axiom, sorry.
-/
import Derived.Test.YtdanefpnfnippaaGreatDoorRows
import GoSem.ClaimSeven
namespace Go.Proofs.YtdanefpnfnippaaGreatDoor
namespace Rows

/-- THE TIED CARD OF 'procliticlaw6.JsonAll'. -/
def jsonAllCard : Claim7 := { stood := { row := jsonAllRow, standIns := [], harness := (true, "221ba28c0257f5a8bcf2e69a4d8ef1f31dd632d26ec57c2e1ba25572e20f1aa8"), looks := true }, kinds := [], alts := [], laidByText := true, laidKinds := [.data, .data, .data, .data, .sentinel, .sentinel, .pinned], laidTests := true, laidLooks := .later }
def JsonAllCardSaid : Prop := Claim7.holds Tryz.pinned (.plain (OpenSpec.ofChange jsonAllSpec)) jsonAllCard

/-- THE SECOND FORM's CARD OF 'procliticlaw6.JsonAll'. -/
def jsonAllUptoCard : Claim7 := { stood := { row := jsonAllUptoRow, standIns := [], harness := (true, "221ba28c0257f5a8bcf2e69a4d8ef1f31dd632d26ec57c2e1ba25572e20f1aa8"), looks := true }, kinds := [], alts := [], laidByText := true, laidKinds := [.data, .data, .data, .data, .sentinel, .sentinel, .pinned], laidTests := true, laidLooks := .later }
def JsonAllUptoCardSaid : Prop := Claim7.holds Tryz.pinned (.plain (OpenSpec.upto jsonAllSpec)) jsonAllUptoCard
end Rows
end Go.Proofs.YtdanefpnfnippaaGreatDoor
