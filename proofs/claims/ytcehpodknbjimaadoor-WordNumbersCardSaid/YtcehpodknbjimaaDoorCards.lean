/-
  DERIVED. GIVEN WITH THE SEED: THE CARDS: each row of YtcehpodknbjimaaDoorRows.lean that lists a variable, with what it lists TIED to the program's text (the seventh form; the later family's looks); each row that meets fmt, with fmt's text TOLD by the authors' own Lean function (tested against real Go, not proved from fmt's source: count such statements apart). THE CARD IS WHAT COUNTS. Prove the row's statement (the work); the ties are given (YtcehpodknbjimaaDoorTie.lean); close each card by the builder's one call (the guide's Derived/Test/ToyasCard.lean, 'card_holds'). Laid BY PROGRAM, IN A SANDBOX (cutbox-door.mjs). By AI agents, Wed Nov 11 2026. No macro, syntax, notation, axiom, sorry.
-/
import Derived.Test.YtcehpodknbjimaaDoorRows
import GoSem.ClaimSeven
namespace Go.Proofs.YtcehpodknbjimaaDoor
namespace Rows

/-- THE TIED CARD OF 'procliticlaw14.AdefDeep'. -/
def adefDeepCard : Claim7 := { stood := { row := adefDeepRow, standIns := [], harness := (true, "c8deefbe3e078ac7e1b7527cc10893f5ecbb8b94a0f58142662aaa94629b9217"), looks := true }, kinds := [], alts := [], laidByText := true, laidKinds := [.data, .pinned], laidTests := true, laidLooks := .later }
def AdefDeepCardSaid : Prop := Claim7.holds Tryd.pinned (.plain (OpenSpec.ofChange adefDeepSpec)) adefDeepCard

/-- THE TIED CARD OF 'procliticlaw7.WordNumbers'. -/
def wordNumbersCard : Claim7 := { stood := { row := wordNumbersRow, standIns := [], harness := (true, "c8deefbe3e078ac7e1b7527cc10893f5ecbb8b94a0f58142662aaa94629b9217"), looks := true }, kinds := [], alts := [], laidByText := true, laidKinds := [.data, .data, .data, .data, .sentinel, .sentinel, .pinned], laidTests := true, laidLooks := .later }
def WordNumbersCardSaid : Prop := Claim7.holds Tryd.pinned (.plain (OpenSpec.ofChange wordNumbersSpec)) wordNumbersCard

/-- THE TIED CARD OF 'procliticlaw7.WordForms'. -/
def wordFormsCard : Claim7 := { stood := { row := wordFormsRow, standIns := [], harness := (true, "c8deefbe3e078ac7e1b7527cc10893f5ecbb8b94a0f58142662aaa94629b9217"), looks := true }, kinds := [], alts := [], laidByText := true, laidKinds := [.data, .data, .data, .data, .sentinel, .sentinel, .pinned], laidTests := true, laidLooks := .later }
def WordFormsCardSaid : Prop := Claim7.holds Tryd.pinned (.plain (OpenSpec.ofChange wordFormsSpec)) wordFormsCard

/-- THE SECOND FORM's CARD OF 'procliticlaw14.AdefDeep'. -/
def adefDeepUptoCard : Claim7 := { stood := { row := adefDeepUptoRow, standIns := [], harness := (true, "c8deefbe3e078ac7e1b7527cc10893f5ecbb8b94a0f58142662aaa94629b9217"), looks := true }, kinds := [], alts := [], laidByText := true, laidKinds := [.data, .pinned], laidTests := true, laidLooks := .later }
def AdefDeepUptoCardSaid : Prop := Claim7.holds Tryd.pinned (.plain (OpenSpec.upto adefDeepSpec)) adefDeepUptoCard

/-- THE SECOND FORM's CARD OF 'procliticlaw7.WordNumbers'. -/
def wordNumbersUptoCard : Claim7 := { stood := { row := wordNumbersUptoRow, standIns := [], harness := (true, "c8deefbe3e078ac7e1b7527cc10893f5ecbb8b94a0f58142662aaa94629b9217"), looks := true }, kinds := [], alts := [], laidByText := true, laidKinds := [.data, .data, .data, .data, .sentinel, .sentinel, .pinned], laidTests := true, laidLooks := .later }
def WordNumbersUptoCardSaid : Prop := Claim7.holds Tryd.pinned (.plain (OpenSpec.upto wordNumbersSpec)) wordNumbersUptoCard

/-- THE SECOND FORM's CARD OF 'procliticlaw7.WordForms'. -/
def wordFormsUptoCard : Claim7 := { stood := { row := wordFormsUptoRow, standIns := [], harness := (true, "c8deefbe3e078ac7e1b7527cc10893f5ecbb8b94a0f58142662aaa94629b9217"), looks := true }, kinds := [], alts := [], laidByText := true, laidKinds := [.data, .data, .data, .data, .sentinel, .sentinel, .pinned], laidTests := true, laidLooks := .later }
def WordFormsUptoCardSaid : Prop := Claim7.holds Tryd.pinned (.plain (OpenSpec.upto wordFormsSpec)) wordFormsUptoCard
end Rows
end Go.Proofs.YtcehpodknbjimaaDoor
