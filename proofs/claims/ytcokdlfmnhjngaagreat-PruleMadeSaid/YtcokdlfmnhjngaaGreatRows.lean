/-
  No cell of these rows narrows 'for every input' (looked for: loops, veiled, ifaces, maps, wideKeys, modest, calm, conditions, laid).
  DERIVED. THE GIVEN ROWS OF THIS SEAT. 6 by the template 'for every input the law returns true; each argument reads behind the call as it read before'; 0 by the template 'total and deterministic' (their statements: YtcokdlfmnhjngaaGreatTotals.lean).
  GIVEN WITH THE SEED: the statements are not yours to turn. If you find one false, say at which input.
  Laid BY PROGRAM, IN A SANDBOX (cutbox-rows.mjs): the forced cells as the released guide's own fill.sh prints them over the translation 9c34d7a7dbb4b8d4… (all of the seat's roots in one cut). By AI agents, Wed Nov 11 2026. No macro, syntax, notation, axiom, sorry.
-/
import Derived.Test.YtcokdlfmnhjngaaGreatChecked
import GoSem.Claim
import GoSem.ClaimJoined
import GoSem.ClaimMapViews
import Derived.JoinedTies
import Derived.KernelRfl
namespace Go.Proofs.YtcokdlfmnhjngaaGreat
/- THE CELL 'sum', in the pinned program and in every row, IS THE sha256 OF THE DUMP (.gsa) THAT YtcokdlfmnhjngaaGreatProg.lean LOADS. Nothing in Lean hashes anything: it is a label: what it is worth is what the hold of that sum in a sandbox is worth. -/
noncomputable def Tryz.pinned : Pinned := { name := "ytcokdlfmnhjngaagreat", sum := "9c34d7a7dbb4b8d4a30f3e4353cee9ec08e77635a56baaa2d2217dfaf3607873", checked := Tryz.checked }
namespace Rows
def none {H : Type} : Left H := { results := [], args := [] }

/-- 'procliticlaw15.PvalTurned': WHATEVER THE INPUT: true; the input reads as it did. -/
def pvalTurnedSpec : ChangeSpec := { name := "pvalTurned", fn := fun _ => fun
  | [d1, d2, d3, d4] => { results := [.lit (.bool true)], args := [d1, d2, d3, d4] }
  | _ => none }
def pvalTurnedRow : OpenClaim := { program := "ytcokdlfmnhjngaagreat", sum := "9c34d7a7dbb4b8d4a30f3e4353cee9ec08e77635a56baaa2d2217dfaf3607873", func := "proclitic/procliticlaw15.PvalTurned", spec := "pvalTurned", inPlace := ["internal/bytealg.abigen_runtime_cmpstring", "slices.overlaps[proclitic/api.Val]", "slices.overlaps[proclitic/api.Field]"], unfollowed := true, recurses := true, apart := false }
def PvalTurnedSaid : Prop := pvalTurnedRow.holds Tryz.pinned (OpenSpec.ofChange pvalTurnedSpec)

/-- ITS FALSE NEIGHBOUR: 'it returns false'. Refute it at one input. -/
def pvalTurnedWrong : ChangeSpec := { name := "pvalTurned", fn := fun _ => fun
  | [d1, d2, d3, d4] => { results := [.lit (.bool false)], args := [d1, d2, d3, d4] }
  | _ => none }
def PvalTurnedWrongFalsely : Prop := pvalTurnedRow.holds Tryz.pinned (OpenSpec.ofChange pvalTurnedWrong)

/-- 'procliticlaw15.PvalMerges': WHATEVER THE INPUT: true; the input reads as it did. -/
def pvalMergesSpec : ChangeSpec := { name := "pvalMerges", fn := fun _ => fun
  | [d1, d2, d3] => { results := [.lit (.bool true)], args := [d1, d2, d3] }
  | _ => none }
def pvalMergesRow : OpenClaim := { program := "ytcokdlfmnhjngaagreat", sum := "9c34d7a7dbb4b8d4a30f3e4353cee9ec08e77635a56baaa2d2217dfaf3607873", func := "proclitic/procliticlaw15.PvalMerges", spec := "pvalMerges", inPlace := ["internal/bytealg.abigen_runtime_cmpstring", "slices.overlaps[proclitic/api.Val]", "slices.overlaps[proclitic/api.Field]"], unfollowed := true, recurses := true, apart := false }
def PvalMergesSaid : Prop := pvalMergesRow.holds Tryz.pinned (OpenSpec.ofChange pvalMergesSpec)

/-- ITS FALSE NEIGHBOUR: 'it returns false'. Refute it at one input. -/
def pvalMergesWrong : ChangeSpec := { name := "pvalMerges", fn := fun _ => fun
  | [d1, d2, d3] => { results := [.lit (.bool false)], args := [d1, d2, d3] }
  | _ => none }
def PvalMergesWrongFalsely : Prop := pvalMergesRow.holds Tryz.pinned (OpenSpec.ofChange pvalMergesWrong)

/-- 'procliticlaw15.PvalOver': WHATEVER THE INPUT: true; the input reads as it did. -/
def pvalOverSpec : ChangeSpec := { name := "pvalOver", fn := fun _ => fun
  | [d1, d2, d3, d4] => { results := [.lit (.bool true)], args := [d1, d2, d3, d4] }
  | _ => none }
def pvalOverRow : OpenClaim := { program := "ytcokdlfmnhjngaagreat", sum := "9c34d7a7dbb4b8d4a30f3e4353cee9ec08e77635a56baaa2d2217dfaf3607873", func := "proclitic/procliticlaw15.PvalOver", spec := "pvalOver", inPlace := ["internal/bytealg.abigen_runtime_cmpstring", "slices.overlaps[proclitic/api.Val]", "slices.overlaps[proclitic/api.Field]"], unfollowed := true, recurses := true, apart := false }
def PvalOverSaid : Prop := pvalOverRow.holds Tryz.pinned (OpenSpec.ofChange pvalOverSpec)

/-- ITS FALSE NEIGHBOUR: 'it returns false'. Refute it at one input. -/
def pvalOverWrong : ChangeSpec := { name := "pvalOver", fn := fun _ => fun
  | [d1, d2, d3, d4] => { results := [.lit (.bool false)], args := [d1, d2, d3, d4] }
  | _ => none }
def PvalOverWrongFalsely : Prop := pvalOverRow.holds Tryz.pinned (OpenSpec.ofChange pvalOverWrong)

/-- 'procliticlaw10.PruleMade': WHATEVER THE INPUT: true; the input reads as it did. -/
def pruleMadeSpec : ChangeSpec := { name := "pruleMade", fn := fun _ => fun
  | [d] => { results := [.lit (.bool true)], args := [d] }
  | _ => none }
def pruleMadeRow : OpenClaim := { program := "ytcokdlfmnhjngaagreat", sum := "9c34d7a7dbb4b8d4a30f3e4353cee9ec08e77635a56baaa2d2217dfaf3607873", func := "proclitic/procliticlaw10.PruleMade", spec := "pruleMade", inPlace := ["internal/abi.NoEscape", "internal/bytealg.MakeNoZero"], unfollowed := true, recurses := true, apart := false }
def PruleMadeSaid : Prop := pruleMadeRow.holds Tryz.pinned (OpenSpec.ofChange pruleMadeSpec)

/-- ITS FALSE NEIGHBOUR: 'it returns false'. Refute it at one input. -/
def pruleMadeWrong : ChangeSpec := { name := "pruleMade", fn := fun _ => fun
  | [d] => { results := [.lit (.bool false)], args := [d] }
  | _ => none }
def PruleMadeWrongFalsely : Prop := pruleMadeRow.holds Tryz.pinned (OpenSpec.ofChange pruleMadeWrong)

/-- 'procliticlaw10.PruleFinds': WHATEVER THE INPUT: true; the input reads as it did. -/
def pruleFindsSpec : ChangeSpec := { name := "pruleFinds", fn := fun _ => fun
  | [d1, d2, d3] => { results := [.lit (.bool true)], args := [d1, d2, d3] }
  | _ => none }
def pruleFindsRow : OpenClaim := { program := "ytcokdlfmnhjngaagreat", sum := "9c34d7a7dbb4b8d4a30f3e4353cee9ec08e77635a56baaa2d2217dfaf3607873", func := "proclitic/procliticlaw10.PruleFinds", spec := "pruleFinds", inPlace := ["internal/abi.NoEscape", "internal/bytealg.MakeNoZero"], unfollowed := true, recurses := true, apart := false }
def PruleFindsSaid : Prop := pruleFindsRow.holds Tryz.pinned (OpenSpec.ofChange pruleFindsSpec)

/-- ITS FALSE NEIGHBOUR: 'it returns false'. Refute it at one input. -/
def pruleFindsWrong : ChangeSpec := { name := "pruleFinds", fn := fun _ => fun
  | [d1, d2, d3] => { results := [.lit (.bool false)], args := [d1, d2, d3] }
  | _ => none }
def PruleFindsWrongFalsely : Prop := pruleFindsRow.holds Tryz.pinned (OpenSpec.ofChange pruleFindsWrong)

/-- 'procliticlaw10.PruleRight': WHATEVER THE INPUT: true; the input reads as it did. -/
def pruleRightSpec : ChangeSpec := { name := "pruleRight", fn := fun _ => fun
  | [d1, d2, d3] => { results := [.lit (.bool true)], args := [d1, d2, d3] }
  | _ => none }
def pruleRightRow : OpenClaim := { program := "ytcokdlfmnhjngaagreat", sum := "9c34d7a7dbb4b8d4a30f3e4353cee9ec08e77635a56baaa2d2217dfaf3607873", func := "proclitic/procliticlaw10.PruleRight", spec := "pruleRight", inPlace := ["internal/abi.NoEscape", "internal/bytealg.MakeNoZero"], unfollowed := true, recurses := true, apart := false }
def PruleRightSaid : Prop := pruleRightRow.holds Tryz.pinned (OpenSpec.ofChange pruleRightSpec)

/-- ITS FALSE NEIGHBOUR: 'it returns false'. Refute it at one input. -/
def pruleRightWrong : ChangeSpec := { name := "pruleRight", fn := fun _ => fun
  | [d1, d2, d3] => { results := [.lit (.bool false)], args := [d1, d2, d3] }
  | _ => none }
def PruleRightWrongFalsely : Prop := pruleRightRow.holds Tryz.pinned (OpenSpec.ofChange pruleRightWrong)

/- THE SECOND FORM. 'bulk': how many values and letters a reading holds, each counted each time it is reached (what is shared counts as often as it is met; a slice's spare places count too). A statement '..UptoSaid' is the law's where the arguments, and the package variables that the reading takes, are together of bulk at most 1048576: NARROWER than '..Said'. Prove '..Said' where nothing that the law and all that it calls make is longer than what came in: it says more and counts as full. Else prove '..UptoSaid'. A law counts once. -/
mutual
def uptoBulk {H : Type} : DataW H → Nat
  | .lit (.string bytes) => bytes.length + 1
  | .lit _ => 1
  | .nil => 1
  | .ptr d => uptoBulk d + 1
  | .slice elems spare => uptoBulkAll elems + uptoBulkAll spare + 1
  | .agg parts => uptoBulkAll parts + 1
  | .iface _ d => uptoBulk d + 1
  | .map entries => uptoBulkEntries entries + 1
  | .held _ => 1
def uptoBulkAll {H : Type} : List (DataW H) → Nat
  | [] => 0
  | d :: r => uptoBulk d + uptoBulkAll r
def uptoBulkEntries {H : Type} : List (Lit × DataW H) → Nat
  | [] => 0
  | x :: r => uptoBulkEntry x + uptoBulkEntries r
def uptoBulkEntry {H : Type} : Lit × DataW H → Nat
  | (.string bytes, d) => bytes.length + uptoBulk d + 1
  | (_, d) => uptoBulk d + 1
 end
def uptoSmall : (H : Type) → List (DataW H) → Bool := fun _ ds => decide (uptoBulkAll ds ≤ 1048576)
def OpenSpec.upto (s : _root_.Go.ChangeSpec) : _root_.Go.OpenSpec := { _root_.Go.OpenSpec.ofChange s with cond := some uptoSmall }

/-- 'procliticlaw15.PvalTurned', WHERE WHAT IT READS IS OF BULK AT MOST 1048576: true; the input reads as it did. -/
def pvalTurnedUptoRow : OpenClaim := { program := "ytcokdlfmnhjngaagreat", sum := "9c34d7a7dbb4b8d4a30f3e4353cee9ec08e77635a56baaa2d2217dfaf3607873", func := "proclitic/procliticlaw15.PvalTurned", spec := "pvalTurned", inPlace := ["internal/bytealg.abigen_runtime_cmpstring", "slices.overlaps[proclitic/api.Val]", "slices.overlaps[proclitic/api.Field]"], unfollowed := true, recurses := true, apart := false, narrowed := true }
def PvalTurnedUptoSaid : Prop := pvalTurnedUptoRow.holds Tryz.pinned (OpenSpec.upto pvalTurnedSpec)

/-- 'procliticlaw15.PvalMerges', WHERE WHAT IT READS IS OF BULK AT MOST 1048576: true; the input reads as it did. -/
def pvalMergesUptoRow : OpenClaim := { program := "ytcokdlfmnhjngaagreat", sum := "9c34d7a7dbb4b8d4a30f3e4353cee9ec08e77635a56baaa2d2217dfaf3607873", func := "proclitic/procliticlaw15.PvalMerges", spec := "pvalMerges", inPlace := ["internal/bytealg.abigen_runtime_cmpstring", "slices.overlaps[proclitic/api.Val]", "slices.overlaps[proclitic/api.Field]"], unfollowed := true, recurses := true, apart := false, narrowed := true }
def PvalMergesUptoSaid : Prop := pvalMergesUptoRow.holds Tryz.pinned (OpenSpec.upto pvalMergesSpec)

/-- 'procliticlaw15.PvalOver', WHERE WHAT IT READS IS OF BULK AT MOST 1048576: true; the input reads as it did. -/
def pvalOverUptoRow : OpenClaim := { program := "ytcokdlfmnhjngaagreat", sum := "9c34d7a7dbb4b8d4a30f3e4353cee9ec08e77635a56baaa2d2217dfaf3607873", func := "proclitic/procliticlaw15.PvalOver", spec := "pvalOver", inPlace := ["internal/bytealg.abigen_runtime_cmpstring", "slices.overlaps[proclitic/api.Val]", "slices.overlaps[proclitic/api.Field]"], unfollowed := true, recurses := true, apart := false, narrowed := true }
def PvalOverUptoSaid : Prop := pvalOverUptoRow.holds Tryz.pinned (OpenSpec.upto pvalOverSpec)

/-- 'procliticlaw10.PruleMade', WHERE WHAT IT READS IS OF BULK AT MOST 1048576: true; the input reads as it did. -/
def pruleMadeUptoRow : OpenClaim := { program := "ytcokdlfmnhjngaagreat", sum := "9c34d7a7dbb4b8d4a30f3e4353cee9ec08e77635a56baaa2d2217dfaf3607873", func := "proclitic/procliticlaw10.PruleMade", spec := "pruleMade", inPlace := ["internal/abi.NoEscape", "internal/bytealg.MakeNoZero"], unfollowed := true, recurses := true, apart := false, narrowed := true }
def PruleMadeUptoSaid : Prop := pruleMadeUptoRow.holds Tryz.pinned (OpenSpec.upto pruleMadeSpec)

/-- 'procliticlaw10.PruleFinds', WHERE WHAT IT READS IS OF BULK AT MOST 1048576: true; the input reads as it did. -/
def pruleFindsUptoRow : OpenClaim := { program := "ytcokdlfmnhjngaagreat", sum := "9c34d7a7dbb4b8d4a30f3e4353cee9ec08e77635a56baaa2d2217dfaf3607873", func := "proclitic/procliticlaw10.PruleFinds", spec := "pruleFinds", inPlace := ["internal/abi.NoEscape", "internal/bytealg.MakeNoZero"], unfollowed := true, recurses := true, apart := false, narrowed := true }
def PruleFindsUptoSaid : Prop := pruleFindsUptoRow.holds Tryz.pinned (OpenSpec.upto pruleFindsSpec)

/-- 'procliticlaw10.PruleRight', WHERE WHAT IT READS IS OF BULK AT MOST 1048576: true; the input reads as it did. -/
def pruleRightUptoRow : OpenClaim := { program := "ytcokdlfmnhjngaagreat", sum := "9c34d7a7dbb4b8d4a30f3e4353cee9ec08e77635a56baaa2d2217dfaf3607873", func := "proclitic/procliticlaw10.PruleRight", spec := "pruleRight", inPlace := ["internal/abi.NoEscape", "internal/bytealg.MakeNoZero"], unfollowed := true, recurses := true, apart := false, narrowed := true }
def PruleRightUptoSaid : Prop := pruleRightUptoRow.holds Tryz.pinned (OpenSpec.upto pruleRightSpec)

end Rows
end Go.Proofs.YtcokdlfmnhjngaaGreat
