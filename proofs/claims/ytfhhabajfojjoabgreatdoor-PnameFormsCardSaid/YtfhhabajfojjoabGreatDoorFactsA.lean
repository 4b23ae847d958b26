/- The calls that have been run, together. -/
import Derived.Test.YtfhhabajfojjoabGreatDoorFactsA1
import Derived.Test.YtfhhabajfojjoabGreatDoorFactsA2
import Derived.Test.YtfhhabajfojjoabGreatDoorFactsA3
import Derived.Test.YtfhhabajfojjoabGreatDoorFactsA4
set_option maxRecDepth 100000
set_option linter.unusedVariables false
namespace Go.Proofs.YtfhhabajfojjoabGreatDoor.IrA
open Go Go.CI

noncomputable def factsaT : Nat → Option CFn := memo tree.getF 1000000 [5, 6, 8] [factsax0, factsax1, factsax2, factsax6, factsax7, factsax8, factsax9, factsax10, factsax11, factsax12, factsax13, factsax14, factsax15, factsax16, factsax17, factsax18]
theorem factsaTok (base : Base) (hb : BaseOk base) : TOk Tryz.prog hints base factsaT := TOk.facts mixed (tok base hb) hb.glob (List.forall_mem_cons.2 ⟨factsaf0 base hb, List.forall_mem_cons.2 ⟨factsaf1 base hb, List.forall_mem_cons.2 ⟨factsaf2 base hb, List.forall_mem_cons.2 ⟨factsaf6 base hb, List.forall_mem_cons.2 ⟨factsaf7 base hb, List.forall_mem_cons.2 ⟨factsaf8 base hb, List.forall_mem_cons.2 ⟨factsaf9 base hb, List.forall_mem_cons.2 ⟨factsaf10 base hb, List.forall_mem_cons.2 ⟨factsaf11 base hb, List.forall_mem_cons.2 ⟨factsaf12 base hb, List.forall_mem_cons.2 ⟨factsaf13 base hb, List.forall_mem_cons.2 ⟨factsaf14 base hb, List.forall_mem_cons.2 ⟨factsaf15 base hb, List.forall_mem_cons.2 ⟨factsaf16 base hb, List.forall_mem_cons.2 ⟨factsaf17 base hb, List.forall_mem_cons.2 ⟨factsaf18 base hb, fun _ h => by cases h⟩⟩⟩⟩⟩⟩⟩⟩⟩⟩⟩⟩⟩⟩⟩⟩)
end Go.Proofs.YtfhhabajfojjoabGreatDoor.IrA
