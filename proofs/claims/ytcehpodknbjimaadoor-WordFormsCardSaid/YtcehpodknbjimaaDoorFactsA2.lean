/- Calls that have been run: part 2. -/
import Derived.Test.YtcehpodknbjimaaDoorIrA
set_option maxRecDepth 100000
set_option linter.unusedVariables false
namespace Go.Proofs.YtcehpodknbjimaaDoor.IrA
open Go Go.CI

def factsax7 : Fact := ⟨10, [(.str [46, 49])], ⟨[], 14094, []⟩, (.tup [.nils, (.int .i64 2), (.int .i64 0)]), ⟨[], 14529, []⟩⟩
theorem factsar7 : factsax7.ends (callFF tree.getF (execF tree.getF 1000000) factsax7.f factsax7.args factsax7.h) = true := by kernel_rfl
theorem factsaf7 (base : Base) (hb : BaseOk base) : FactOk Tryd.prog base factsax7 := FactOk.of 1000000 mixed (tok base hb) hb.glob factsar7
def factsax8 : Fact := ⟨10, [(.str [97, 46, 49])], ⟨[], 14562, []⟩, (.tup [.nils, (.int .i64 2), (.int .i64 1)]), ⟨[], 16505, []⟩⟩
theorem factsar8 : factsax8.ends (callFF tree.getF (execF tree.getF 1000000) factsax8.f factsax8.args factsax8.h) = true := by kernel_rfl
theorem factsaf8 (base : Base) (hb : BaseOk base) : FactOk Tryd.prog base factsax8 := FactOk.of 1000000 mixed (tok base hb) hb.glob factsar8
def factsax9 : Fact := ⟨10, [(.str [48])], ⟨[], 16538, []⟩, (.tup [(.imm .none 4 [(.agg [(.int .i64 2), (.str []), (.int .u64 0), (.int .i64 0)]), (.agg [(.int .i64 5), (.str []), (.int .u64 0), (.int .i64 1)])]), (.int .i64 0), (.int .i64 0)]), ⟨[], 17483, []⟩⟩
theorem factsar9 : factsax9.ends (callFF tree.getF (execF tree.getF 1000000) factsax9.f factsax9.args factsax9.h) = true := by kernel_rfl
theorem factsaf9 (base : Base) (hb : BaseOk base) : FactOk Tryd.prog base factsax9 := FactOk.of 1000000 mixed (tok base hb) hb.glob factsar9
def factsax10 : Fact := ⟨10, [(.str [48, 48])], ⟨[], 17516, []⟩, (.tup [(.imm .none 4 [(.agg [(.int .i64 2), (.str []), (.int .u64 0), (.int .i64 0)]), (.agg [(.int .i64 5), (.str []), (.int .u64 0), (.int .i64 2)])]), (.int .i64 0), (.int .i64 0)]), ⟨[], 18529, []⟩⟩
theorem factsar10 : factsax10.ends (callFF tree.getF (execF tree.getF 1000000) factsax10.f factsax10.args factsax10.h) = true := by kernel_rfl
theorem factsaf10 (base : Base) (hb : BaseOk base) : FactOk Tryd.prog base factsax10 := FactOk.of 1000000 mixed (tok base hb) hb.glob factsar10
def factsax11 : Fact := ⟨10, [(.str [48, 56])], ⟨[], 18562, []⟩, (.tup [.nils, (.int .i64 2), (.int .i64 0)]), ⟨[], 19460, []⟩⟩
theorem factsar11 : factsax11.ends (callFF tree.getF (execF tree.getF 1000000) factsax11.f factsax11.args factsax11.h) = true := by kernel_rfl
theorem factsaf11 (base : Base) (hb : BaseOk base) : FactOk Tryd.prog base factsax11 := FactOk.of 1000000 mixed (tok base hb) hb.glob factsar11
def factsax12 : Fact := ⟨10, [(.str [48, 120])], ⟨[], 19493, []⟩, (.tup [.nils, (.int .i64 2), (.int .i64 0)]), ⟨[], 20389, []⟩⟩
theorem factsar12 : factsax12.ends (callFF tree.getF (execF tree.getF 1000000) factsax12.f factsax12.args factsax12.h) = true := by kernel_rfl
theorem factsaf12 (base : Base) (hb : BaseOk base) : FactOk Tryd.prog base factsax12 := FactOk.of 1000000 mixed (tok base hb) hb.glob factsar12
def factsax13 : Fact := ⟨10, [(.str [48, 120, 103])], ⟨[], 20422, []⟩, (.tup [.nils, (.int .i64 2), (.int .i64 0)]), ⟨[], 21716, []⟩⟩
theorem factsar13 : factsax13.ends (callFF tree.getF (execF tree.getF 1000000) factsax13.f factsax13.args factsax13.h) = true := by kernel_rfl
theorem factsaf13 (base : Base) (hb : BaseOk base) : FactOk Tryd.prog base factsax13 := FactOk.of 1000000 mixed (tok base hb) hb.glob factsar13
def factsax14 : Fact := ⟨10, [(.str [48, 120, 70, 49])], ⟨[], 21749, []⟩, (.tup [(.imm .none 4 [(.agg [(.int .i64 2), (.str []), (.int .u64 241), (.int .i64 0)]), (.agg [(.int .i64 5), (.str []), (.int .u64 0), (.int .i64 4)])]), (.int .i64 0), (.int .i64 0)]), ⟨[], 23421, []⟩⟩
theorem factsar14 : factsax14.ends (callFF tree.getF (execF tree.getF 1000000) factsax14.f factsax14.args factsax14.h) = true := by kernel_rfl
theorem factsaf14 (base : Base) (hb : BaseOk base) : FactOk Tryd.prog base factsax14 := FactOk.of 1000000 mixed (tok base hb) hb.glob factsar14
def factsax15 : Fact := ⟨10, [(.str [49, 56, 52, 52, 54, 55, 52, 52, 48, 55, 51, 55, 48, 57, 53, 53, 49, 54, 49, 53])], ⟨[], 23454, []⟩, (.tup [(.imm .none 4 [(.agg [(.int .i64 2), (.str []), (.int .u64 18446744073709551615), (.int .i64 0)]), (.agg [(.int .i64 5), (.str []), (.int .u64 0), (.int .i64 20)])]), (.int .i64 0), (.int .i64 0)]), ⟨[], 25714, []⟩⟩
theorem factsar15 : factsax15.ends (callFF tree.getF (execF tree.getF 1000000) factsax15.f factsax15.args factsax15.h) = true := by kernel_rfl
theorem factsaf15 (base : Base) (hb : BaseOk base) : FactOk Tryd.prog base factsax15 := FactOk.of 1000000 mixed (tok base hb) hb.glob factsar15
def factsax16 : Fact := ⟨10, [(.str [49, 56, 52, 52, 54, 55, 52, 52, 48, 55, 51, 55, 48, 57, 53, 53, 49, 54, 49, 54])], ⟨[], 25747, []⟩, (.tup [.nils, (.int .i64 3), (.int .i64 0)]), ⟨[], 27933, []⟩⟩
theorem factsar16 : factsax16.ends (callFF tree.getF (execF tree.getF 1000000) factsax16.f factsax16.args factsax16.h) = true := by kernel_rfl
theorem factsaf16 (base : Base) (hb : BaseOk base) : FactOk Tryd.prog base factsax16 := FactOk.of 1000000 mixed (tok base hb) hb.glob factsar16
end Go.Proofs.YtcehpodknbjimaaDoor.IrA
