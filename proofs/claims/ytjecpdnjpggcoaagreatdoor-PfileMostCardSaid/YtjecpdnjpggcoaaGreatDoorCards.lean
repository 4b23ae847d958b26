/-
  DERIVED. GIVEN WITH THE SEED: THE CARDS: each row of YtjecpdnjpggcoaaGreatDoorRows.lean that lists a variable, with what it lists TIED to the program's text (the seventh form; the later family's looks); each row that meets fmt, with fmt's text TOLD by the authors' own Lean function (tested against real Go, not proved from fmt's source: count such statements apart). THE CARD IS WHAT COUNTS. Prove the row's statement (the work); the ties are given (YtjecpdnjpggcoaaGreatDoorTie.lean); close each card by the builder's one call (the guide's Derived/Test/ToyasCard.lean, 'card_holds'). Laid BY PROGRAM, IN A SANDBOX (cutbox-door.mjs). By AI agents, Wed Nov 11 2026. No macro, syntax, notation, axiom, sorry.
-/
import Derived.Test.YtjecpdnjpggcoaaGreatDoorRows
import GoSem.ClaimSeven
namespace Go.Proofs.YtjecpdnjpggcoaaGreatDoor
namespace Rows

/-- THE TIED CARD OF 'procliticlaw8.PfileMost'. -/
def pfileMostCard : Claim7 := { stood := { row := pfileMostRow, standIns := [], harness := (true, "a28b1dc746d1316dffc2d47846f175d7731aace1c3190d8cd6a3889f9bf11c37"), looks := true }, kinds := [], alts := [], laidByText := true, laidKinds := [.data, .data, .data, .data, .sentinel, .sentinel, .pinned], laidTests := true, laidLooks := .later }
def PfileMostCardSaid : Prop := Claim7.holds Tryz.pinned (.plain (OpenSpec.ofChange pfileMostSpec)) pfileMostCard

/-- THE TIED CARD OF 'procliticlaw8.PfileOrder'. -/
def pfileOrderCard : Claim7 := { stood := { row := pfileOrderRow, standIns := [], harness := (true, "a28b1dc746d1316dffc2d47846f175d7731aace1c3190d8cd6a3889f9bf11c37"), looks := true }, kinds := [], alts := [], laidByText := true, laidKinds := [.data, .data, .data, .data, .sentinel, .sentinel, .pinned], laidTests := true, laidLooks := .later }
def PfileOrderCardSaid : Prop := Claim7.holds Tryz.pinned (.plain (OpenSpec.ofChange pfileOrderSpec)) pfileOrderCard

/-- THE SECOND FORM's CARD OF 'procliticlaw8.PfileMost'. -/
def pfileMostUptoCard : Claim7 := { stood := { row := pfileMostUptoRow, standIns := [], harness := (true, "a28b1dc746d1316dffc2d47846f175d7731aace1c3190d8cd6a3889f9bf11c37"), looks := true }, kinds := [], alts := [], laidByText := true, laidKinds := [.data, .data, .data, .data, .sentinel, .sentinel, .pinned], laidTests := true, laidLooks := .later }
def PfileMostUptoCardSaid : Prop := Claim7.holds Tryz.pinned (.plain (OpenSpec.upto pfileMostSpec)) pfileMostUptoCard

/-- THE SECOND FORM's CARD OF 'procliticlaw8.PfileOrder'. -/
def pfileOrderUptoCard : Claim7 := { stood := { row := pfileOrderUptoRow, standIns := [], harness := (true, "a28b1dc746d1316dffc2d47846f175d7731aace1c3190d8cd6a3889f9bf11c37"), looks := true }, kinds := [], alts := [], laidByText := true, laidKinds := [.data, .data, .data, .data, .sentinel, .sentinel, .pinned], laidTests := true, laidLooks := .later }
def PfileOrderUptoCardSaid : Prop := Claim7.holds Tryz.pinned (.plain (OpenSpec.upto pfileOrderSpec)) pfileOrderUptoCard
end Rows
end Go.Proofs.YtjecpdnjpggcoaaGreatDoor
