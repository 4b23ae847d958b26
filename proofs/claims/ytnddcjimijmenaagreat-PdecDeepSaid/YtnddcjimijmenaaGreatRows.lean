/-
  No cell of these rows narrows 'for every input' (looked for: loops, veiled, ifaces, maps, wideKeys, modest, calm, conditions, laid).
  DERIVED. THE GIVEN ROWS OF THIS SEAT. 3 by the template 'for every input the law returns true; each argument reads behind the call as it read before'; 0 by the template 'total and deterministic' (their statements: YtnddcjimijmenaaGreatTotals.lean).
  GIVEN WITH THE SEED: the statements are not yours to turn. If you find one false, say at which input.
  Laid BY PROGRAM, IN A SANDBOX (cutbox-rows.mjs): the forced cells as the released guide's own fill.sh prints them over the translation ca7aa467e35021e5… (all of the seat's roots in one cut). By AI agents, Wed Nov 11 2026. No macro, syntax, notation, axiom, sorry.
-/
import Derived.Test.YtnddcjimijmenaaGreatChecked
import GoSem.Claim
import GoSem.ClaimJoined
import GoSem.ClaimMapViews
import Derived.JoinedTies
import Derived.KernelRfl
namespace Go.Proofs.YtnddcjimijmenaaGreat
/- THE CELL 'sum', in the pinned program and in every row, IS THE sha256 OF THE DUMP (.gsa) THAT YtnddcjimijmenaaGreatProg.lean LOADS. Nothing in Lean hashes anything: it is a label: what it is worth is what the hold of that sum in a sandbox is worth. -/
noncomputable def Tryz.pinned : Pinned := { name := "ytnddcjimijmenaagreat", sum := "ca7aa467e35021e53827c571d2c3b054e28452343efbe532e09dd833b997ae7b", checked := Tryz.checked }
namespace Rows
def none {H : Type} : Left H := { results := [], args := [] }

/-- 'procliticlaw16.PdecRests': WHATEVER THE INPUT: true; the input reads as it did. -/
def pdecRestsSpec : ChangeSpec := { name := "pdecRests", fn := fun _ => fun
  | [d1, d2] => { results := [.lit (.bool true)], args := [d1, d2] }
  | _ => none }
def pdecRestsRow : OpenClaim := { program := "ytnddcjimijmenaagreat", sum := "ca7aa467e35021e53827c571d2c3b054e28452343efbe532e09dd833b997ae7b", func := "proclitic/procliticlaw16.PdecRests", spec := "pdecRests", inPlace := ["internal/abi.NoEscape", "internal/bytealg.abigen_runtime_cmpstring", "slices.overlaps[proclitic/api.Val]"], unfollowed := true, recurses := true, apart := false }
def PdecRestsSaid : Prop := pdecRestsRow.holds Tryz.pinned (OpenSpec.ofChange pdecRestsSpec)

/-- ITS FALSE NEIGHBOUR: 'it returns false'. Refute it at one input. -/
def pdecRestsWrong : ChangeSpec := { name := "pdecRests", fn := fun _ => fun
  | [d1, d2] => { results := [.lit (.bool false)], args := [d1, d2] }
  | _ => none }
def PdecRestsWrongFalsely : Prop := pdecRestsRow.holds Tryz.pinned (OpenSpec.ofChange pdecRestsWrong)

/-- 'procliticlaw16.PdecDeep': WHATEVER THE INPUT: true; the input reads as it did. -/
def pdecDeepSpec : ChangeSpec := { name := "pdecDeep", fn := fun _ => fun
  | [d1, d2] => { results := [.lit (.bool true)], args := [d1, d2] }
  | _ => none }
def pdecDeepRow : OpenClaim := { program := "ytnddcjimijmenaagreat", sum := "ca7aa467e35021e53827c571d2c3b054e28452343efbe532e09dd833b997ae7b", func := "proclitic/procliticlaw16.PdecDeep", spec := "pdecDeep", inPlace := ["internal/abi.NoEscape", "internal/bytealg.abigen_runtime_cmpstring", "slices.overlaps[proclitic/api.Val]"], unfollowed := true, recurses := true, apart := false }
def PdecDeepSaid : Prop := pdecDeepRow.holds Tryz.pinned (OpenSpec.ofChange pdecDeepSpec)

/-- ITS FALSE NEIGHBOUR: 'it returns false'. Refute it at one input. -/
def pdecDeepWrong : ChangeSpec := { name := "pdecDeep", fn := fun _ => fun
  | [d1, d2] => { results := [.lit (.bool false)], args := [d1, d2] }
  | _ => none }
def PdecDeepWrongFalsely : Prop := pdecDeepRow.holds Tryz.pinned (OpenSpec.ofChange pdecDeepWrong)

/-- 'procliticlaw16.PdecForms': WHATEVER THE INPUT: true; the input reads as it did. -/
def pdecFormsSpec : ChangeSpec := { name := "pdecForms", fn := fun _ => fun
  | [] => { results := [.lit (.bool true)], args := [] }
  | _ => none }
def pdecFormsRow : OpenClaim := { program := "ytnddcjimijmenaagreat", sum := "ca7aa467e35021e53827c571d2c3b054e28452343efbe532e09dd833b997ae7b", func := "proclitic/procliticlaw16.PdecForms", spec := "pdecForms", inPlace := ["internal/abi.NoEscape", "internal/bytealg.abigen_runtime_cmpstring", "slices.overlaps[proclitic/api.Val]"], unfollowed := true, recurses := true, apart := false }
def PdecFormsSaid : Prop := pdecFormsRow.holds Tryz.pinned (OpenSpec.ofChange pdecFormsSpec)

/-- ITS FALSE NEIGHBOUR: 'it returns false'. Refute it at one input. -/
def pdecFormsWrong : ChangeSpec := { name := "pdecForms", fn := fun _ => fun
  | [] => { results := [.lit (.bool false)], args := [] }
  | _ => none }
def PdecFormsWrongFalsely : Prop := pdecFormsRow.holds Tryz.pinned (OpenSpec.ofChange pdecFormsWrong)

/- THE SECOND FORM. 'bulk': how many values and letters a reading holds, each counted each time it is reached (what is shared counts as often as it is met; a slice's spare places count too). A statement '..UptoSaid' is the law's where the arguments, and the package variables that the reading takes, are together of bulk at most 1048576: NARROWER than '..Said'. Prove '..Said' where nothing that the law and all that it calls make is longer than what came in: it says more and counts as full. Else prove '..UptoSaid'. A law counts once. -/
mutual
def uptoBulk {H : Type} : DataW H → Nat
  | .lit (.string bytes) => bytes.length + 1
  | .lit _ => 1
  | .nil => 1
  | .ptr d => uptoBulk d + 1
  | .slice elems spare => uptoBulkAll elems + uptoBulkAll spare + 1
  | .agg parts => uptoBulkAll parts + 1
  | .iface _ d => uptoBulk d + 1
  | .map entries => uptoBulkEntries entries + 1
  | .held _ => 1
def uptoBulkAll {H : Type} : List (DataW H) → Nat
  | [] => 0
  | d :: r => uptoBulk d + uptoBulkAll r
def uptoBulkEntries {H : Type} : List (Lit × DataW H) → Nat
  | [] => 0
  | x :: r => uptoBulkEntry x + uptoBulkEntries r
def uptoBulkEntry {H : Type} : Lit × DataW H → Nat
  | (.string bytes, d) => bytes.length + uptoBulk d + 1
  | (_, d) => uptoBulk d + 1
 end
def uptoSmall : (H : Type) → List (DataW H) → Bool := fun _ ds => decide (uptoBulkAll ds ≤ 1048576)
def OpenSpec.upto (s : _root_.Go.ChangeSpec) : _root_.Go.OpenSpec := { _root_.Go.OpenSpec.ofChange s with cond := some uptoSmall }

/-- 'procliticlaw16.PdecRests', WHERE WHAT IT READS IS OF BULK AT MOST 1048576: true; the input reads as it did. -/
def pdecRestsUptoRow : OpenClaim := { program := "ytnddcjimijmenaagreat", sum := "ca7aa467e35021e53827c571d2c3b054e28452343efbe532e09dd833b997ae7b", func := "proclitic/procliticlaw16.PdecRests", spec := "pdecRests", inPlace := ["internal/abi.NoEscape", "internal/bytealg.abigen_runtime_cmpstring", "slices.overlaps[proclitic/api.Val]"], unfollowed := true, recurses := true, apart := false, narrowed := true }
def PdecRestsUptoSaid : Prop := pdecRestsUptoRow.holds Tryz.pinned (OpenSpec.upto pdecRestsSpec)

/-- 'procliticlaw16.PdecDeep', WHERE WHAT IT READS IS OF BULK AT MOST 1048576: true; the input reads as it did. -/
def pdecDeepUptoRow : OpenClaim := { program := "ytnddcjimijmenaagreat", sum := "ca7aa467e35021e53827c571d2c3b054e28452343efbe532e09dd833b997ae7b", func := "proclitic/procliticlaw16.PdecDeep", spec := "pdecDeep", inPlace := ["internal/abi.NoEscape", "internal/bytealg.abigen_runtime_cmpstring", "slices.overlaps[proclitic/api.Val]"], unfollowed := true, recurses := true, apart := false, narrowed := true }
def PdecDeepUptoSaid : Prop := pdecDeepUptoRow.holds Tryz.pinned (OpenSpec.upto pdecDeepSpec)

/-- 'procliticlaw16.PdecForms', WHERE WHAT IT READS IS OF BULK AT MOST 1048576: true; the input reads as it did. -/
def pdecFormsUptoRow : OpenClaim := { program := "ytnddcjimijmenaagreat", sum := "ca7aa467e35021e53827c571d2c3b054e28452343efbe532e09dd833b997ae7b", func := "proclitic/procliticlaw16.PdecForms", spec := "pdecForms", inPlace := ["internal/abi.NoEscape", "internal/bytealg.abigen_runtime_cmpstring", "slices.overlaps[proclitic/api.Val]"], unfollowed := true, recurses := true, apart := false, narrowed := true }
def PdecFormsUptoSaid : Prop := pdecFormsUptoRow.holds Tryz.pinned (OpenSpec.upto pdecFormsSpec)

end Rows
end Go.Proofs.YtnddcjimijmenaaGreat
