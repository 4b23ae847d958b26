/- The calls that have been run, together. -/
import Derived.Test.YtcehpodknbjimaaGreatDoorFacts1
import Derived.Test.YtcehpodknbjimaaGreatDoorFacts2
import Derived.Test.YtcehpodknbjimaaGreatDoorFacts3
import Derived.Test.YtcehpodknbjimaaGreatDoorFacts4
set_option maxRecDepth 100000
set_option linter.unusedVariables false
namespace Go.Proofs.YtcehpodknbjimaaGreatDoor.Ir
open Go Go.CI

noncomputable def factsT : Nat → Option CFn := memo tree.getF 1000000 [4, 5] [factsx0, factsx3, factsx4, factsx5, factsx6, factsx7, factsx8, factsx9, factsx10, factsx11, factsx12, factsx13, factsx14, factsx15, factsx16]
theorem factsTok (n : Nat) : TOk Tryz.prog hints ⟨n, hints.globals⟩ factsT := TOk.facts mixed (tok ⟨n, hints.globals⟩) rfl (List.forall_mem_cons.2 ⟨factsf0 n, List.forall_mem_cons.2 ⟨factsf3 n, List.forall_mem_cons.2 ⟨factsf4 n, List.forall_mem_cons.2 ⟨factsf5 n, List.forall_mem_cons.2 ⟨factsf6 n, List.forall_mem_cons.2 ⟨factsf7 n, List.forall_mem_cons.2 ⟨factsf8 n, List.forall_mem_cons.2 ⟨factsf9 n, List.forall_mem_cons.2 ⟨factsf10 n, List.forall_mem_cons.2 ⟨factsf11 n, List.forall_mem_cons.2 ⟨factsf12 n, List.forall_mem_cons.2 ⟨factsf13 n, List.forall_mem_cons.2 ⟨factsf14 n, List.forall_mem_cons.2 ⟨factsf15 n, List.forall_mem_cons.2 ⟨factsf16 n, fun _ h => by cases h⟩⟩⟩⟩⟩⟩⟩⟩⟩⟩⟩⟩⟩⟩⟩)
end Go.Proofs.YtcehpodknbjimaaGreatDoor.Ir
