/-
  DERIVED. GIVEN WITH THE SEED: THE CARDS: each row of YtdolnhpdfeagiaaGreatDoorRows.lean that lists a variable, with what it lists TIED to the program's text (the seventh form; the later family's looks); each row that meets fmt, with fmt's text TOLD by the authors' own Lean function (tested against real Go, not proved from fmt's source: count such statements apart). THE CARD IS WHAT COUNTS. Prove the row's statement (the work); the ties are given (YtdolnhpdfeagiaaGreatDoorTie.lean); close each card by the builder's one call (the guide's Derived/Test/ToyasCard.lean, 'card_holds'). Laid BY PROGRAM, IN A SANDBOX (cutbox-door.mjs). By AI agents, Wed Nov 11 2026. No macro, syntax, notation, axiom, sorry.
-/
import Derived.Test.YtdolnhpdfeagiaaGreatDoorRows
import GoSem.ClaimSeven
namespace Go.Proofs.YtdolnhpdfeagiaaGreatDoor
namespace Rows

/-- THE TIED CARD OF 'procliticlaw25.PathBack'. -/
def pathBackCard : Claim7 := { stood := { row := pathBackRow, standIns := [], harness := (true, "6247f1f35aa81b5203005d32848cb32b5c6280ee7ef06b7873830e81536accf1"), looks := true }, kinds := [], alts := [], laidByText := true, laidKinds := [.data, .pinned], laidTests := true, laidLooks := .later }
def PathBackCardSaid : Prop := Claim7.holds Tryz.pinned (.plain (OpenSpec.ofChange pathBackSpec)) pathBackCard

/-- THE TIED CARD OF 'procliticlaw25.PathTells'. -/
def pathTellsCard : Claim7 := { stood := { row := pathTellsRow, standIns := [], harness := (true, "6247f1f35aa81b5203005d32848cb32b5c6280ee7ef06b7873830e81536accf1"), looks := true }, kinds := [], alts := [], laidByText := true, laidKinds := [.data, .pinned], laidTests := true, laidLooks := .later }
def PathTellsCardSaid : Prop := Claim7.holds Tryz.pinned (.plain (OpenSpec.ofChange pathTellsSpec)) pathTellsCard

/-- THE TIED CARD OF 'procliticlaw9.PnameNet'. -/
def pnameNetCard : Claim7 := { stood := { row := pnameNetRow, standIns := [], harness := (true, "6247f1f35aa81b5203005d32848cb32b5c6280ee7ef06b7873830e81536accf1"), looks := true }, kinds := [], alts := [], laidByText := true, laidKinds := [.data, .data, .data, .data, .sentinel, .sentinel, .pinned], laidTests := true, laidLooks := .later }
def PnameNetCardSaid : Prop := Claim7.holds Tryz.pinned (.plain (OpenSpec.ofChange pnameNetSpec)) pnameNetCard

/-- THE SECOND FORM's CARD OF 'procliticlaw25.PathBack'. -/
def pathBackUptoCard : Claim7 := { stood := { row := pathBackUptoRow, standIns := [], harness := (true, "6247f1f35aa81b5203005d32848cb32b5c6280ee7ef06b7873830e81536accf1"), looks := true }, kinds := [], alts := [], laidByText := true, laidKinds := [.data, .pinned], laidTests := true, laidLooks := .later }
def PathBackUptoCardSaid : Prop := Claim7.holds Tryz.pinned (.plain (OpenSpec.upto pathBackSpec)) pathBackUptoCard

/-- THE SECOND FORM's CARD OF 'procliticlaw25.PathTells'. -/
def pathTellsUptoCard : Claim7 := { stood := { row := pathTellsUptoRow, standIns := [], harness := (true, "6247f1f35aa81b5203005d32848cb32b5c6280ee7ef06b7873830e81536accf1"), looks := true }, kinds := [], alts := [], laidByText := true, laidKinds := [.data, .pinned], laidTests := true, laidLooks := .later }
def PathTellsUptoCardSaid : Prop := Claim7.holds Tryz.pinned (.plain (OpenSpec.upto pathTellsSpec)) pathTellsUptoCard

/-- THE SECOND FORM's CARD OF 'procliticlaw9.PnameNet'. -/
def pnameNetUptoCard : Claim7 := { stood := { row := pnameNetUptoRow, standIns := [], harness := (true, "6247f1f35aa81b5203005d32848cb32b5c6280ee7ef06b7873830e81536accf1"), looks := true }, kinds := [], alts := [], laidByText := true, laidKinds := [.data, .data, .data, .data, .sentinel, .sentinel, .pinned], laidTests := true, laidLooks := .later }
def PnameNetUptoCardSaid : Prop := Claim7.holds Tryz.pinned (.plain (OpenSpec.upto pnameNetSpec)) pnameNetUptoCard
end Rows
end Go.Proofs.YtdolnhpdfeagiaaGreatDoor
