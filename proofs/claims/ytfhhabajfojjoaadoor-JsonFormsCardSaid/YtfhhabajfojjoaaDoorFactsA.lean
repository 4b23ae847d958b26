/- The calls that have been run, together. -/
import Derived.Test.YtfhhabajfojjoaaDoorFactsA1
import Derived.Test.YtfhhabajfojjoaaDoorFactsA2
import Derived.Test.YtfhhabajfojjoaaDoorFactsA3
import Derived.Test.YtfhhabajfojjoaaDoorFactsA4
set_option maxRecDepth 100000
set_option linter.unusedVariables false
namespace Go.Proofs.YtfhhabajfojjoaaDoor.IrA
open Go Go.CI

noncomputable def factsaT : Nat → Option CFn := memo tree.getF 1000000 [5, 6] [factsax0, factsax1, factsax2, factsax3, factsax4, factsax5, factsax6, factsax7, factsax8, factsax9, factsax10, factsax11, factsax12, factsax13, factsax14, factsax15, factsax16, factsax17, factsax18, factsax19, factsax20, factsax21, factsax22, factsax23, factsax24, factsax25, factsax26, factsax27, factsax28, factsax29, factsax30, factsax31, factsax32, factsax33, factsax34, factsax35]
theorem factsaTok (base : Base) (hb : BaseOk base) : TOk Tryd.prog hints base factsaT := TOk.facts mixed (tok base hb) hb.glob (List.forall_mem_cons.2 ⟨factsaf0 base hb, List.forall_mem_cons.2 ⟨factsaf1 base hb, List.forall_mem_cons.2 ⟨factsaf2 base hb, List.forall_mem_cons.2 ⟨factsaf3 base hb, List.forall_mem_cons.2 ⟨factsaf4 base hb, List.forall_mem_cons.2 ⟨factsaf5 base hb, List.forall_mem_cons.2 ⟨factsaf6 base hb, List.forall_mem_cons.2 ⟨factsaf7 base hb, List.forall_mem_cons.2 ⟨factsaf8 base hb, List.forall_mem_cons.2 ⟨factsaf9 base hb, List.forall_mem_cons.2 ⟨factsaf10 base hb, List.forall_mem_cons.2 ⟨factsaf11 base hb, List.forall_mem_cons.2 ⟨factsaf12 base hb, List.forall_mem_cons.2 ⟨factsaf13 base hb, List.forall_mem_cons.2 ⟨factsaf14 base hb, List.forall_mem_cons.2 ⟨factsaf15 base hb, List.forall_mem_cons.2 ⟨factsaf16 base hb, List.forall_mem_cons.2 ⟨factsaf17 base hb, List.forall_mem_cons.2 ⟨factsaf18 base hb, List.forall_mem_cons.2 ⟨factsaf19 base hb, List.forall_mem_cons.2 ⟨factsaf20 base hb, List.forall_mem_cons.2 ⟨factsaf21 base hb, List.forall_mem_cons.2 ⟨factsaf22 base hb, List.forall_mem_cons.2 ⟨factsaf23 base hb, List.forall_mem_cons.2 ⟨factsaf24 base hb, List.forall_mem_cons.2 ⟨factsaf25 base hb, List.forall_mem_cons.2 ⟨factsaf26 base hb, List.forall_mem_cons.2 ⟨factsaf27 base hb, List.forall_mem_cons.2 ⟨factsaf28 base hb, List.forall_mem_cons.2 ⟨factsaf29 base hb, List.forall_mem_cons.2 ⟨factsaf30 base hb, List.forall_mem_cons.2 ⟨factsaf31 base hb, List.forall_mem_cons.2 ⟨factsaf32 base hb, List.forall_mem_cons.2 ⟨factsaf33 base hb, List.forall_mem_cons.2 ⟨factsaf34 base hb, List.forall_mem_cons.2 ⟨factsaf35 base hb, fun _ h => by cases h⟩⟩⟩⟩⟩⟩⟩⟩⟩⟩⟩⟩⟩⟩⟩⟩⟩⟩⟩⟩⟩⟩⟩⟩⟩⟩⟩⟩⟩⟩⟩⟩⟩⟩⟩⟩)
end Go.Proofs.YtfhhabajfojjoaaDoor.IrA
