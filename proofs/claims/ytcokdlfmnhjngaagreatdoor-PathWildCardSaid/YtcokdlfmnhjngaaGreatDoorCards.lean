/-
  DERIVED. GIVEN WITH THE SEED: THE CARDS: each row of YtcokdlfmnhjngaaGreatDoorRows.lean that lists a variable, with what it lists TIED to the program's text (the seventh form; the later family's looks); each row that meets fmt, with fmt's text TOLD by the authors' own Lean function (tested against real Go, not proved from fmt's source: count such statements apart). THE CARD IS WHAT COUNTS. Prove the row's statement (the work); the ties are given (YtcokdlfmnhjngaaGreatDoorTie.lean); close each card by the builder's one call (the guide's Derived/Test/ToyasCard.lean, 'card_holds'). Laid BY PROGRAM, IN A SANDBOX (cutbox-door.mjs). By AI agents, Wed Nov 11 2026. No macro, syntax, notation, axiom, sorry.
-/
import Derived.Test.YtcokdlfmnhjngaaGreatDoorRows
import GoSem.ClaimSeven
namespace Go.Proofs.YtcokdlfmnhjngaaGreatDoor
namespace Rows

/-- THE TIED CARD OF 'procliticlaw25.PathWild'. -/
def pathWildCard : Claim7 := { stood := { row := pathWildRow, standIns := [], harness := (true, "1212ab42e62fd734a7dd9edda89bf1e90d720d3ac4e353260b8b2480dc91a010"), looks := false }, kinds := [], alts := [], laidByText := true, laidKinds := [.data, .pinned], laidTests := true, laidLooks := .later }
def PathWildCardSaid : Prop := Claim7.holds Tryz.pinned (.plain (OpenSpec.ofChange pathWildSpec)) pathWildCard

/-- THE TIED CARD OF 'procliticlaw25.PathMade'. -/
def pathMadeCard : Claim7 := { stood := { row := pathMadeRow, standIns := [], harness := (true, "1212ab42e62fd734a7dd9edda89bf1e90d720d3ac4e353260b8b2480dc91a010"), looks := false }, kinds := [], alts := [], laidByText := true, laidKinds := [.data, .pinned], laidTests := true, laidLooks := .later }
def PathMadeCardSaid : Prop := Claim7.holds Tryz.pinned (.plain (OpenSpec.ofChange pathMadeSpec)) pathMadeCard

/-- THE SECOND FORM's CARD OF 'procliticlaw25.PathWild'. -/
def pathWildUptoCard : Claim7 := { stood := { row := pathWildUptoRow, standIns := [], harness := (true, "1212ab42e62fd734a7dd9edda89bf1e90d720d3ac4e353260b8b2480dc91a010"), looks := false }, kinds := [], alts := [], laidByText := true, laidKinds := [.data, .pinned], laidTests := true, laidLooks := .later }
def PathWildUptoCardSaid : Prop := Claim7.holds Tryz.pinned (.plain (OpenSpec.upto pathWildSpec)) pathWildUptoCard

/-- THE SECOND FORM's CARD OF 'procliticlaw25.PathMade'. -/
def pathMadeUptoCard : Claim7 := { stood := { row := pathMadeUptoRow, standIns := [], harness := (true, "1212ab42e62fd734a7dd9edda89bf1e90d720d3ac4e353260b8b2480dc91a010"), looks := false }, kinds := [], alts := [], laidByText := true, laidKinds := [.data, .pinned], laidTests := true, laidLooks := .later }
def PathMadeUptoCardSaid : Prop := Claim7.holds Tryz.pinned (.plain (OpenSpec.upto pathMadeSpec)) pathMadeUptoCard
end Rows
end Go.Proofs.YtcokdlfmnhjngaaGreatDoor
