/- Calls that have been run: part 1. -/
import Derived.Test.YtcehpodknbjimaaDoorIrA
set_option maxRecDepth 100000
set_option linter.unusedVariables false
namespace Go.Proofs.YtcehpodknbjimaaDoor.IrA
open Go Go.CI

def factsax0 : Fact := ⟨10, [(.str [97, 46, 98, 32, 61, 32, 48, 120, 49, 70])], ⟨[], 12, []⟩, (.tup [(.imm .none 4 [(.agg [(.int .i64 1), (.str [97, 46, 98]), (.int .u64 0), (.int .i64 0)]), (.agg [(.int .i64 4), (.str [61]), (.int .u64 0), (.int .i64 4)]), (.agg [(.int .i64 2), (.str []), (.int .u64 31), (.int .i64 6)]), (.agg [(.int .i64 5), (.str []), (.int .u64 0), (.int .i64 10)])]), (.int .i64 0), (.int .i64 0)]), ⟨[], 4744, []⟩⟩
theorem factsar0 : factsax0.ends (callFF tree.getF (execF tree.getF 1000000) factsax0.f factsax0.args factsax0.h) = true := by kernel_rfl
theorem factsaf0 (base : Base) (hb : BaseOk base) : FactOk Tryd.prog base factsax0 := FactOk.of 1000000 mixed (tok base hb) hb.glob factsar0
def factsax1 : Fact := ⟨10, [(.str [97, 32, 63])], ⟨[], 4752, []⟩, (.tup [.nils, (.int .i64 2), (.int .i64 2)]), ⟨[], 6683, []⟩⟩
theorem factsar1 : factsax1.ends (callFF tree.getF (execF tree.getF 1000000) factsax1.f factsax1.args factsax1.h) = true := by kernel_rfl
theorem factsaf1 (base : Base) (hb : BaseOk base) : FactOk Tryd.prog base factsax1 := FactOk.of 1000000 mixed (tok base hb) hb.glob factsar1
def factsax2 : Fact := ⟨10, [(.str [])], ⟨[], 6743, []⟩, (.tup [(.imm .none 4 [(.agg [(.int .i64 5), (.str []), (.int .u64 0), (.int .i64 0)])]), (.int .i64 0), (.int .i64 0)]), ⟨[], 6883, []⟩⟩
theorem factsar2 : factsax2.ends (callFF tree.getF (execF tree.getF 1000000) factsax2.f factsax2.args factsax2.h) = true := by kernel_rfl
theorem factsaf2 (base : Base) (hb : BaseOk base) : FactOk Tryd.prog base factsax2 := FactOk.of 1000000 mixed (tok base hb) hb.glob factsar2
def factsax3 : Fact := ⟨10, [(.str [46, 97, 46, 98])], ⟨[], 6916, []⟩, (.tup [(.imm .none 4 [(.agg [(.int .i64 1), (.str [46, 97, 46, 98]), (.int .u64 0), (.int .i64 0)]), (.agg [(.int .i64 5), (.str []), (.int .u64 0), (.int .i64 4)])]), (.int .i64 0), (.int .i64 0)]), ⟨[], 9674, []⟩⟩
theorem factsar3 : factsax3.ends (callFF tree.getF (execF tree.getF 1000000) factsax3.f factsax3.args factsax3.h) = true := by kernel_rfl
theorem factsaf3 (base : Base) (hb : BaseOk base) : FactOk Tryd.prog base factsax3 := FactOk.of 1000000 mixed (tok base hb) hb.glob factsar3
def factsax4 : Fact := ⟨10, [(.str [97, 46])], ⟨[], 9707, []⟩, (.tup [.nils, (.int .i64 2), (.int .i64 1)]), ⟨[], 11628, []⟩⟩
theorem factsar4 : factsax4.ends (callFF tree.getF (execF tree.getF 1000000) factsax4.f factsax4.args factsax4.h) = true := by kernel_rfl
theorem factsaf4 (base : Base) (hb : BaseOk base) : FactOk Tryd.prog base factsax4 := FactOk.of 1000000 mixed (tok base hb) hb.glob factsar4
def factsax5 : Fact := ⟨10, [(.str [97, 46, 46, 98])], ⟨[], 11661, []⟩, (.tup [.nils, (.int .i64 2), (.int .i64 1)]), ⟨[], 13604, []⟩⟩
theorem factsar5 : factsax5.ends (callFF tree.getF (execF tree.getF 1000000) factsax5.f factsax5.args factsax5.h) = true := by kernel_rfl
theorem factsaf5 (base : Base) (hb : BaseOk base) : FactOk Tryd.prog base factsax5 := FactOk.of 1000000 mixed (tok base hb) hb.glob factsar5
def factsax6 : Fact := ⟨10, [(.str [46])], ⟨[], 13637, []⟩, (.tup [.nils, (.int .i64 2), (.int .i64 0)]), ⟨[], 14061, []⟩⟩
theorem factsar6 : factsax6.ends (callFF tree.getF (execF tree.getF 1000000) factsax6.f factsax6.args factsax6.h) = true := by kernel_rfl
theorem factsaf6 (base : Base) (hb : BaseOk base) : FactOk Tryd.prog base factsax6 := FactOk.of 1000000 mixed (tok base hb) hb.glob factsar6
end Go.Proofs.YtcehpodknbjimaaDoor.IrA
