/-
  No cell of these rows narrows 'for every input' (looked for: loops, veiled, ifaces, maps, wideKeys, modest, calm, conditions, laid).
  DERIVED. THE GIVEN ROWS OF THIS SEAT. 3 by the template 'for every input the law returns true; each argument reads behind the call as it read before'; 0 by the template 'total and deterministic' (their statements: YtafeofghkhhhkaaGreatTotals.lean).
  GIVEN WITH THE SEED: the statements are not yours to turn. If you find one false, say at which input.
  Laid BY PROGRAM, IN A SANDBOX (cutbox-rows.mjs): the forced cells as the released guide's own fill.sh prints them over the translation ffe32a5d8dccd3b5… (all of the seat's roots in one cut). By AI agents, Wed Nov 11 2026. No macro, syntax, notation, axiom, sorry.
-/
import Derived.Test.YtafeofghkhhhkaaGreatChecked
import GoSem.Claim
import GoSem.ClaimJoined
import GoSem.ClaimMapViews
import Derived.JoinedTies
import Derived.KernelRfl
namespace Go.Proofs.YtafeofghkhhhkaaGreat
/- THE CELL 'sum', in the pinned program and in every row, IS THE sha256 OF THE DUMP (.gsa) THAT YtafeofghkhhhkaaGreatProg.lean LOADS. Nothing in Lean hashes anything: it is a label: what it is worth is what the hold of that sum in a sandbox is worth. -/
noncomputable def Tryz.pinned : Pinned := { name := "ytafeofghkhhhkaagreat", sum := "ffe32a5d8dccd3b5bf21d997ca932662e3330eed5082fdb9febfa4ae05e4ecfb", checked := Tryz.checked }
namespace Rows
def none {H : Type} : Left H := { results := [], args := [] }

/-- 'procliticlaw15.PvalTurned': WHATEVER THE INPUT: true; the input reads as it did. -/
def pvalTurnedSpec : ChangeSpec := { name := "pvalTurned", fn := fun _ => fun
  | [d1, d2, d3, d4] => { results := [.lit (.bool true)], args := [d1, d2, d3, d4] }
  | _ => none }
def pvalTurnedRow : OpenClaim := { program := "ytafeofghkhhhkaagreat", sum := "ffe32a5d8dccd3b5bf21d997ca932662e3330eed5082fdb9febfa4ae05e4ecfb", func := "proclitic/procliticlaw15.PvalTurned", spec := "pvalTurned", inPlace := ["internal/bytealg.abigen_runtime_cmpstring", "slices.overlaps[proclitic/api.Val]", "slices.overlaps[proclitic/api.Field]"], unfollowed := true, recurses := true, apart := false }
def PvalTurnedSaid : Prop := pvalTurnedRow.holds Tryz.pinned (OpenSpec.ofChange pvalTurnedSpec)

/-- ITS FALSE NEIGHBOUR: 'it returns false'. Refute it at one input. -/
def pvalTurnedWrong : ChangeSpec := { name := "pvalTurned", fn := fun _ => fun
  | [d1, d2, d3, d4] => { results := [.lit (.bool false)], args := [d1, d2, d3, d4] }
  | _ => none }
def PvalTurnedWrongFalsely : Prop := pvalTurnedRow.holds Tryz.pinned (OpenSpec.ofChange pvalTurnedWrong)

/-- 'procliticlaw15.PvalMerges': WHATEVER THE INPUT: true; the input reads as it did. -/
def pvalMergesSpec : ChangeSpec := { name := "pvalMerges", fn := fun _ => fun
  | [d1, d2, d3] => { results := [.lit (.bool true)], args := [d1, d2, d3] }
  | _ => none }
def pvalMergesRow : OpenClaim := { program := "ytafeofghkhhhkaagreat", sum := "ffe32a5d8dccd3b5bf21d997ca932662e3330eed5082fdb9febfa4ae05e4ecfb", func := "proclitic/procliticlaw15.PvalMerges", spec := "pvalMerges", inPlace := ["internal/bytealg.abigen_runtime_cmpstring", "slices.overlaps[proclitic/api.Val]", "slices.overlaps[proclitic/api.Field]"], unfollowed := true, recurses := true, apart := false }
def PvalMergesSaid : Prop := pvalMergesRow.holds Tryz.pinned (OpenSpec.ofChange pvalMergesSpec)

/-- ITS FALSE NEIGHBOUR: 'it returns false'. Refute it at one input. -/
def pvalMergesWrong : ChangeSpec := { name := "pvalMerges", fn := fun _ => fun
  | [d1, d2, d3] => { results := [.lit (.bool false)], args := [d1, d2, d3] }
  | _ => none }
def PvalMergesWrongFalsely : Prop := pvalMergesRow.holds Tryz.pinned (OpenSpec.ofChange pvalMergesWrong)

/-- 'procliticlaw15.PvalOver': WHATEVER THE INPUT: true; the input reads as it did. -/
def pvalOverSpec : ChangeSpec := { name := "pvalOver", fn := fun _ => fun
  | [d1, d2, d3, d4] => { results := [.lit (.bool true)], args := [d1, d2, d3, d4] }
  | _ => none }
def pvalOverRow : OpenClaim := { program := "ytafeofghkhhhkaagreat", sum := "ffe32a5d8dccd3b5bf21d997ca932662e3330eed5082fdb9febfa4ae05e4ecfb", func := "proclitic/procliticlaw15.PvalOver", spec := "pvalOver", inPlace := ["internal/bytealg.abigen_runtime_cmpstring", "slices.overlaps[proclitic/api.Val]", "slices.overlaps[proclitic/api.Field]"], unfollowed := true, recurses := true, apart := false }
def PvalOverSaid : Prop := pvalOverRow.holds Tryz.pinned (OpenSpec.ofChange pvalOverSpec)

/-- ITS FALSE NEIGHBOUR: 'it returns false'. Refute it at one input. -/
def pvalOverWrong : ChangeSpec := { name := "pvalOver", fn := fun _ => fun
  | [d1, d2, d3, d4] => { results := [.lit (.bool false)], args := [d1, d2, d3, d4] }
  | _ => none }
def PvalOverWrongFalsely : Prop := pvalOverRow.holds Tryz.pinned (OpenSpec.ofChange pvalOverWrong)

/- THE SECOND FORM. 'bulk': how many values and letters a reading holds, each counted each time it is reached (what is shared counts as often as it is met; a slice's spare places count too). A statement '..UptoSaid' is the law's where the arguments, and the package variables that the reading takes, are together of bulk at most 1048576: NARROWER than '..Said'. Prove '..Said' where nothing that the law and all that it calls make is longer than what came in: it says more and counts as full. Else prove '..UptoSaid'. A law counts once. -/
mutual
def uptoBulk {H : Type} : DataW H → Nat
  | .lit (.string bytes) => bytes.length + 1
  | .lit _ => 1
  | .nil => 1
  | .ptr d => uptoBulk d + 1
  | .slice elems spare => uptoBulkAll elems + uptoBulkAll spare + 1
  | .agg parts => uptoBulkAll parts + 1
  | .iface _ d => uptoBulk d + 1
  | .map entries => uptoBulkEntries entries + 1
  | .held _ => 1
def uptoBulkAll {H : Type} : List (DataW H) → Nat
  | [] => 0
  | d :: r => uptoBulk d + uptoBulkAll r
def uptoBulkEntries {H : Type} : List (Lit × DataW H) → Nat
  | [] => 0
  | x :: r => uptoBulkEntry x + uptoBulkEntries r
def uptoBulkEntry {H : Type} : Lit × DataW H → Nat
  | (.string bytes, d) => bytes.length + uptoBulk d + 1
  | (_, d) => uptoBulk d + 1
 end
def uptoSmall : (H : Type) → List (DataW H) → Bool := fun _ ds => decide (uptoBulkAll ds ≤ 1048576)
def OpenSpec.upto (s : _root_.Go.ChangeSpec) : _root_.Go.OpenSpec := { _root_.Go.OpenSpec.ofChange s with cond := some uptoSmall }

/-- 'procliticlaw15.PvalTurned', WHERE WHAT IT READS IS OF BULK AT MOST 1048576: true; the input reads as it did. -/
def pvalTurnedUptoRow : OpenClaim := { program := "ytafeofghkhhhkaagreat", sum := "ffe32a5d8dccd3b5bf21d997ca932662e3330eed5082fdb9febfa4ae05e4ecfb", func := "proclitic/procliticlaw15.PvalTurned", spec := "pvalTurned", inPlace := ["internal/bytealg.abigen_runtime_cmpstring", "slices.overlaps[proclitic/api.Val]", "slices.overlaps[proclitic/api.Field]"], unfollowed := true, recurses := true, apart := false, narrowed := true }
def PvalTurnedUptoSaid : Prop := pvalTurnedUptoRow.holds Tryz.pinned (OpenSpec.upto pvalTurnedSpec)

/-- 'procliticlaw15.PvalMerges', WHERE WHAT IT READS IS OF BULK AT MOST 1048576: true; the input reads as it did. -/
def pvalMergesUptoRow : OpenClaim := { program := "ytafeofghkhhhkaagreat", sum := "ffe32a5d8dccd3b5bf21d997ca932662e3330eed5082fdb9febfa4ae05e4ecfb", func := "proclitic/procliticlaw15.PvalMerges", spec := "pvalMerges", inPlace := ["internal/bytealg.abigen_runtime_cmpstring", "slices.overlaps[proclitic/api.Val]", "slices.overlaps[proclitic/api.Field]"], unfollowed := true, recurses := true, apart := false, narrowed := true }
def PvalMergesUptoSaid : Prop := pvalMergesUptoRow.holds Tryz.pinned (OpenSpec.upto pvalMergesSpec)

/-- 'procliticlaw15.PvalOver', WHERE WHAT IT READS IS OF BULK AT MOST 1048576: true; the input reads as it did. -/
def pvalOverUptoRow : OpenClaim := { program := "ytafeofghkhhhkaagreat", sum := "ffe32a5d8dccd3b5bf21d997ca932662e3330eed5082fdb9febfa4ae05e4ecfb", func := "proclitic/procliticlaw15.PvalOver", spec := "pvalOver", inPlace := ["internal/bytealg.abigen_runtime_cmpstring", "slices.overlaps[proclitic/api.Val]", "slices.overlaps[proclitic/api.Field]"], unfollowed := true, recurses := true, apart := false, narrowed := true }
def PvalOverUptoSaid : Prop := pvalOverUptoRow.holds Tryz.pinned (OpenSpec.upto pvalOverSpec)

end Rows
end Go.Proofs.YtafeofghkhhhkaaGreat
