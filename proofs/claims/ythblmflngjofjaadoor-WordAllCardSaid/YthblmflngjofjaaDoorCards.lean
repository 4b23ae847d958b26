/-
  DERIVED. GIVEN WITH THE SEED: THE CARDS: each row of YthblmflngjofjaaDoorRows.lean that lists a variable, with what it lists TIED to the program's text (the seventh form; the later family's looks); each row that meets fmt, with fmt's text TOLD by the authors' own Lean function (tested against real Go, not proved from fmt's source: count such statements apart). THE CARD IS WHAT COUNTS. Prove the row's statement (the work); the ties are given (YthblmflngjofjaaDoorTie.lean); close each card by the builder's one call (the guide's Derived/Test/ToyasCard.lean, 'card_holds'). Laid BY PROGRAM, IN A SANDBOX (cutbox-door.mjs). By AI agents, Wed Nov 11 2026. No macro, syntax, notation, axiom, sorry.
-/
import Derived.Test.YthblmflngjofjaaDoorRows
import GoSem.ClaimSeven
namespace Go.Proofs.YthblmflngjofjaaDoor
namespace Rows

/-- THE TIED CARD OF 'procliticlaw7.WordAll'. -/
def wordAllCard : Claim7 := { stood := { row := wordAllRow, standIns := [], harness := (true, "50b28cc067ae09f5d909108157d0ebb59716180725b181f033dbd8ee321560bc"), looks := true }, kinds := [], alts := [], laidByText := true, laidKinds := [.data, .data, .data, .data, .sentinel, .sentinel, .pinned], laidTests := true, laidLooks := .later }
def WordAllCardSaid : Prop := Claim7.holds Tryd.pinned (.plain (OpenSpec.ofChange wordAllSpec)) wordAllCard

/-- THE TIED CARD OF 'procliticlaw7.WordPlaces'. -/
def wordPlacesCard : Claim7 := { stood := { row := wordPlacesRow, standIns := [], harness := (true, "50b28cc067ae09f5d909108157d0ebb59716180725b181f033dbd8ee321560bc"), looks := true }, kinds := [], alts := [], laidByText := true, laidKinds := [.data, .data, .data, .data, .sentinel, .sentinel, .pinned], laidTests := true, laidLooks := .later }
def WordPlacesCardSaid : Prop := Claim7.holds Tryd.pinned (.plain (OpenSpec.ofChange wordPlacesSpec)) wordPlacesCard

/-- THE SECOND FORM's CARD OF 'procliticlaw7.WordAll'. -/
def wordAllUptoCard : Claim7 := { stood := { row := wordAllUptoRow, standIns := [], harness := (true, "50b28cc067ae09f5d909108157d0ebb59716180725b181f033dbd8ee321560bc"), looks := true }, kinds := [], alts := [], laidByText := true, laidKinds := [.data, .data, .data, .data, .sentinel, .sentinel, .pinned], laidTests := true, laidLooks := .later }
def WordAllUptoCardSaid : Prop := Claim7.holds Tryd.pinned (.plain (OpenSpec.upto wordAllSpec)) wordAllUptoCard

/-- THE SECOND FORM's CARD OF 'procliticlaw7.WordPlaces'. -/
def wordPlacesUptoCard : Claim7 := { stood := { row := wordPlacesUptoRow, standIns := [], harness := (true, "50b28cc067ae09f5d909108157d0ebb59716180725b181f033dbd8ee321560bc"), looks := true }, kinds := [], alts := [], laidByText := true, laidKinds := [.data, .data, .data, .data, .sentinel, .sentinel, .pinned], laidTests := true, laidLooks := .later }
def WordPlacesUptoCardSaid : Prop := Claim7.holds Tryd.pinned (.plain (OpenSpec.upto wordPlacesSpec)) wordPlacesUptoCard
end Rows
end Go.Proofs.YthblmflngjofjaaDoor
