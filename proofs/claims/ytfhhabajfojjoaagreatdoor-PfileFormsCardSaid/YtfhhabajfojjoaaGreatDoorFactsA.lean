/- The calls that have been run, together. -/
import Derived.Test.YtfhhabajfojjoaaGreatDoorFactsA1
import Derived.Test.YtfhhabajfojjoaaGreatDoorFactsA2
import Derived.Test.YtfhhabajfojjoaaGreatDoorFactsA3
import Derived.Test.YtfhhabajfojjoaaGreatDoorFactsA4
import Derived.Test.YtfhhabajfojjoaaGreatDoorFactsA5
import Derived.Test.YtfhhabajfojjoaaGreatDoorFactsA6
import Derived.Test.YtfhhabajfojjoaaGreatDoorFactsA7
import Derived.Test.YtfhhabajfojjoaaGreatDoorFactsA8
set_option maxRecDepth 100000
set_option linter.unusedVariables false
namespace Go.Proofs.YtfhhabajfojjoaaGreatDoor.IrA
open Go Go.CI

noncomputable def factsaT : Nat → Option CFn := memo tree.getF 1000000 [14] [factsax0, factsax2, factsax4, factsax6, factsax8, factsax10, factsax12, factsax14, factsax16, factsax18, factsax20, factsax22, factsax24, factsax26, factsax28, factsax30, factsax32, factsax34, factsax36, factsax38, factsax40, factsax42, factsax44, factsax46, factsax48, factsax50, factsax52, factsax54, factsax56, factsax58, factsax60, factsax62]
theorem factsaTok (base : Base) (hb : BaseOk base) : TOk Tryz.prog hints base factsaT := TOk.facts mixed (tok base hb) hb.glob (List.forall_mem_cons.2 ⟨factsaf0 base hb, List.forall_mem_cons.2 ⟨factsaf2 base hb, List.forall_mem_cons.2 ⟨factsaf4 base hb, List.forall_mem_cons.2 ⟨factsaf6 base hb, List.forall_mem_cons.2 ⟨factsaf8 base hb, List.forall_mem_cons.2 ⟨factsaf10 base hb, List.forall_mem_cons.2 ⟨factsaf12 base hb, List.forall_mem_cons.2 ⟨factsaf14 base hb, List.forall_mem_cons.2 ⟨factsaf16 base hb, List.forall_mem_cons.2 ⟨factsaf18 base hb, List.forall_mem_cons.2 ⟨factsaf20 base hb, List.forall_mem_cons.2 ⟨factsaf22 base hb, List.forall_mem_cons.2 ⟨factsaf24 base hb, List.forall_mem_cons.2 ⟨factsaf26 base hb, List.forall_mem_cons.2 ⟨factsaf28 base hb, List.forall_mem_cons.2 ⟨factsaf30 base hb, List.forall_mem_cons.2 ⟨factsaf32 base hb, List.forall_mem_cons.2 ⟨factsaf34 base hb, List.forall_mem_cons.2 ⟨factsaf36 base hb, List.forall_mem_cons.2 ⟨factsaf38 base hb, List.forall_mem_cons.2 ⟨factsaf40 base hb, List.forall_mem_cons.2 ⟨factsaf42 base hb, List.forall_mem_cons.2 ⟨factsaf44 base hb, List.forall_mem_cons.2 ⟨factsaf46 base hb, List.forall_mem_cons.2 ⟨factsaf48 base hb, List.forall_mem_cons.2 ⟨factsaf50 base hb, List.forall_mem_cons.2 ⟨factsaf52 base hb, List.forall_mem_cons.2 ⟨factsaf54 base hb, List.forall_mem_cons.2 ⟨factsaf56 base hb, List.forall_mem_cons.2 ⟨factsaf58 base hb, List.forall_mem_cons.2 ⟨factsaf60 base hb, List.forall_mem_cons.2 ⟨factsaf62 base hb, fun _ h => by cases h⟩⟩⟩⟩⟩⟩⟩⟩⟩⟩⟩⟩⟩⟩⟩⟩⟩⟩⟩⟩⟩⟩⟩⟩⟩⟩⟩⟩⟩⟩⟩⟩)
end Go.Proofs.YtfhhabajfojjoaaGreatDoor.IrA
