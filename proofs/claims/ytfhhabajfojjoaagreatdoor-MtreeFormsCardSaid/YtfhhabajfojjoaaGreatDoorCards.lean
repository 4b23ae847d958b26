/-
  DERIVED. GIVEN WITH THE SEED: THE CARDS: each row of YtfhhabajfojjoaaGreatDoorRows.lean that lists a variable, with what it lists TIED to the program's text (the seventh form; the later family's looks); each row that meets fmt, with fmt's text TOLD by the authors' own Lean function (tested against real Go, not proved from fmt's source: count such statements apart). THE CARD IS WHAT COUNTS. Prove the row's statement (the work); the ties are given (YtfhhabajfojjoaaGreatDoorTie.lean); close each card by the builder's one call (the guide's Derived/Test/ToyasCard.lean, 'card_holds'). Laid BY PROGRAM, IN A SANDBOX (cutbox-door.mjs). By AI agents, Wed Nov 11 2026. No macro, syntax, notation, axiom, sorry.
-/
import Derived.Test.YtfhhabajfojjoaaGreatDoorRows
import GoSem.ClaimSeven
namespace Go.Proofs.YtfhhabajfojjoaaGreatDoor
namespace Rows

/-- THE TIED CARD OF 'procliticlaw26.MtreeForms'. -/
def mtreeFormsCard : Claim7 := { stood := { row := mtreeFormsRow, standIns := [], harness := (true, "1207ea3f886c236ba5f477ea09626982d65db4cf1ac54c4e43bc171cde3982fa"), looks := true }, kinds := [], alts := [], laidByText := true, laidKinds := [.data, .pinned], laidTests := true, laidLooks := .later }
def MtreeFormsCardSaid : Prop := Claim7.holds Tryz.pinned (.plain (OpenSpec.ofChange mtreeFormsSpec)) mtreeFormsCard

/-- THE TIED CARD OF 'procliticlaw8.PfileMost'. -/
def pfileMostCard : Claim7 := { stood := { row := pfileMostRow, standIns := [], harness := (true, "1207ea3f886c236ba5f477ea09626982d65db4cf1ac54c4e43bc171cde3982fa"), looks := true }, kinds := [], alts := [], laidByText := true, laidKinds := [.data, .data, .data, .data, .sentinel, .sentinel, .pinned], laidTests := true, laidLooks := .later }
def PfileMostCardSaid : Prop := Claim7.holds Tryz.pinned (.plain (OpenSpec.ofChange pfileMostSpec)) pfileMostCard

/-- THE TIED CARD OF 'procliticlaw8.PfileForms'. -/
def pfileFormsCard : Claim7 := { stood := { row := pfileFormsRow, standIns := [], harness := (true, "1207ea3f886c236ba5f477ea09626982d65db4cf1ac54c4e43bc171cde3982fa"), looks := true }, kinds := [], alts := [], laidByText := true, laidKinds := [.data, .data, .data, .data, .sentinel, .sentinel, .pinned], laidTests := true, laidLooks := .later }
def PfileFormsCardSaid : Prop := Claim7.holds Tryz.pinned (.plain (OpenSpec.ofChange pfileFormsSpec)) pfileFormsCard

/-- THE SECOND FORM's CARD OF 'procliticlaw26.MtreeForms'. -/
def mtreeFormsUptoCard : Claim7 := { stood := { row := mtreeFormsUptoRow, standIns := [], harness := (true, "1207ea3f886c236ba5f477ea09626982d65db4cf1ac54c4e43bc171cde3982fa"), looks := true }, kinds := [], alts := [], laidByText := true, laidKinds := [.data, .pinned], laidTests := true, laidLooks := .later }
def MtreeFormsUptoCardSaid : Prop := Claim7.holds Tryz.pinned (.plain (OpenSpec.upto mtreeFormsSpec)) mtreeFormsUptoCard

/-- THE SECOND FORM's CARD OF 'procliticlaw8.PfileMost'. -/
def pfileMostUptoCard : Claim7 := { stood := { row := pfileMostUptoRow, standIns := [], harness := (true, "1207ea3f886c236ba5f477ea09626982d65db4cf1ac54c4e43bc171cde3982fa"), looks := true }, kinds := [], alts := [], laidByText := true, laidKinds := [.data, .data, .data, .data, .sentinel, .sentinel, .pinned], laidTests := true, laidLooks := .later }
def PfileMostUptoCardSaid : Prop := Claim7.holds Tryz.pinned (.plain (OpenSpec.upto pfileMostSpec)) pfileMostUptoCard

/-- THE SECOND FORM's CARD OF 'procliticlaw8.PfileForms'. -/
def pfileFormsUptoCard : Claim7 := { stood := { row := pfileFormsUptoRow, standIns := [], harness := (true, "1207ea3f886c236ba5f477ea09626982d65db4cf1ac54c4e43bc171cde3982fa"), looks := true }, kinds := [], alts := [], laidByText := true, laidKinds := [.data, .data, .data, .data, .sentinel, .sentinel, .pinned], laidTests := true, laidLooks := .later }
def PfileFormsUptoCardSaid : Prop := Claim7.holds Tryz.pinned (.plain (OpenSpec.upto pfileFormsSpec)) pfileFormsUptoCard
end Rows
end Go.Proofs.YtfhhabajfojjoaaGreatDoor
