/- Calls that have been run: part 1. -/
import Derived.Test.YtfhhabajfojjoaaDoorIrA
set_option maxRecDepth 100000
set_option linter.unusedVariables false
namespace Go.Proofs.YtfhhabajfojjoaaDoor.IrA
open Go Go.CI

def factsax0 : Fact := ⟨5, [(.str [123, 34, 97, 34, 58, 91, 49, 44, 110, 117, 108, 108, 93, 125])], ⟨[], 11, []⟩, (.tup [(.agg [(.int .i64 6), (.int .i64 0), (.str []), (.imm .none 5 [(.agg [(.int .i64 5), (.int .i64 0), (.str []), (.imm .none 5 [(.agg [(.int .i64 3), (.int .i64 1), (.str []), .nils, .nils]), (.agg [(.int .i64 1), (.int .i64 0), (.str []), .nils, .nils])]), .nils])]), (.imm .none 1 [(.str [97])])]), (.int .i64 0)]), ⟨[], 4036, [(653, 5)]⟩⟩
theorem factsar0 : factsax0.ends (callFF tree.getF (execF tree.getF 1000000) factsax0.f factsax0.args factsax0.h) = true := by kernel_rfl
theorem factsaf0 (base : Base) (hb : BaseOk base) : FactOk Tryd.prog base factsax0 := FactOk.of 1000000 mixed (tok base hb) hb.glob factsar0
def factsax1 : Fact := ⟨5, [(.str [91])], ⟨[(8, (.cells [(.int .i64 6), (.int .i64 0), (.str []), (.imm .none 5 [(.agg [(.int .i64 5), (.int .i64 0), (.str []), (.imm .none 5 [(.agg [(.int .i64 3), (.int .i64 1), (.str []), .nils, .nils]), (.agg [(.int .i64 1), (.int .i64 0), (.str []), .nils, .nils])]), .nils])]), (.imm .none 1 [(.str [97])])]))], 4043, [(653, 5)]⟩, (.tup [(.agg [(.int .i64 0), (.int .i64 0), (.str []), .nils, .nils]), (.int .i64 2)]), ⟨[(8, (.cells [(.int .i64 6), (.int .i64 0), (.str []), (.imm .none 5 [(.agg [(.int .i64 5), (.int .i64 0), (.str []), (.imm .none 5 [(.agg [(.int .i64 3), (.int .i64 1), (.str []), .nils, .nils]), (.agg [(.int .i64 1), (.int .i64 0), (.str []), .nils, .nils])]), .nils])]), (.imm .none 1 [(.str [97])])]))], 5009, [(653, 5)]⟩⟩
theorem factsar1 : factsax1.ends (callFF tree.getF (execF tree.getF 1000000) factsax1.f factsax1.args factsax1.h) = true := by kernel_rfl
theorem factsaf1 (base : Base) (hb : BaseOk base) : FactOk Tryd.prog base factsax1 := FactOk.of 1000000 mixed (tok base hb) hb.glob factsar1
def factsax2 : Fact := ⟨6, [(.agg [(.int .i64 6), (.int .i64 0), (.str []), (.imm .none 5 [(.agg [(.int .i64 5), (.int .i64 0), (.str []), (.imm .none 5 [(.agg [(.int .i64 3), (.int .i64 1), (.str []), .nils, .nils]), (.agg [(.int .i64 1), (.int .i64 0), (.str []), .nils, .nils])]), .nils])]), (.imm .none 1 [(.str [97])])])], ⟨[(5014, (.cells [(.int .i64 5), (.int .i64 0), (.str []), (.imm .none 5 [(.agg [(.int .i64 3), (.int .i64 1), (.str []), .nils, .nils]), (.agg [(.int .i64 1), (.int .i64 0), (.str []), .nils, .nils])]), .nils])), (4040, (.cells [(.int .i64 0), (.int .i64 0), (.str []), .nils, .nils])), (8, (.cells [(.int .i64 6), (.int .i64 0), (.str []), (.imm .none 5 [(.agg [(.int .i64 5), (.int .i64 0), (.str []), (.imm .none 5 [(.agg [(.int .i64 3), (.int .i64 1), (.str []), .nils, .nils]), (.agg [(.int .i64 1), (.int .i64 0), (.str []), .nils, .nils])]), .nils])]), (.imm .none 1 [(.str [97])])]))], 5100, [(653, 5)]⟩, (.str [123, 34, 97, 34, 58, 91, 49, 44, 110, 117, 108, 108, 93, 125]), ⟨[(5014, (.cells [(.int .i64 5), (.int .i64 0), (.str []), (.imm .none 5 [(.agg [(.int .i64 3), (.int .i64 1), (.str []), .nils, .nils]), (.agg [(.int .i64 1), (.int .i64 0), (.str []), .nils, .nils])]), .nils])), (4040, (.cells [(.int .i64 0), (.int .i64 0), (.str []), .nils, .nils])), (8, (.cells [(.int .i64 6), (.int .i64 0), (.str []), (.imm .none 5 [(.agg [(.int .i64 5), (.int .i64 0), (.str []), (.imm .none 5 [(.agg [(.int .i64 3), (.int .i64 1), (.str []), .nils, .nils]), (.agg [(.int .i64 1), (.int .i64 0), (.str []), .nils, .nils])]), .nils])]), (.imm .none 1 [(.str [97])])]))], 5565, [(5476, 5), (5349, 5), (653, 5)]⟩⟩
theorem factsar2 : factsax2.ends (callFF tree.getF (execF tree.getF 1000000) factsax2.f factsax2.args factsax2.h) = true := by kernel_rfl
theorem factsaf2 (base : Base) (hb : BaseOk base) : FactOk Tryd.prog base factsax2 := FactOk.of 1000000 mixed (tok base hb) hb.glob factsar2
def factsax3 : Fact := ⟨5, [(.str [])], ⟨[], 6058, [(5476, 5), (5349, 5), (653, 5)]⟩, (.tup [(.agg [(.int .i64 0), (.int .i64 0), (.str []), .nils, .nils]), (.int .i64 2)]), ⟨[], 6571, [(5476, 5), (5349, 5), (653, 5)]⟩⟩
theorem factsar3 : factsax3.ends (callFF tree.getF (execF tree.getF 1000000) factsax3.f factsax3.args factsax3.h) = true := by kernel_rfl
theorem factsaf3 (base : Base) (hb : BaseOk base) : FactOk Tryd.prog base factsax3 := FactOk.of 1000000 mixed (tok base hb) hb.glob factsar3
def factsax4 : Fact := ⟨5, [(.str [110, 117, 108, 108])], ⟨[], 6603, [(5476, 5), (5349, 5), (653, 5)]⟩, (.tup [(.agg [(.int .i64 1), (.int .i64 0), (.str []), .nils, .nils]), (.int .i64 0)]), ⟨[], 6999, [(5476, 5), (5349, 5), (653, 5)]⟩⟩
theorem factsar4 : factsax4.ends (callFF tree.getF (execF tree.getF 1000000) factsax4.f factsax4.args factsax4.h) = true := by kernel_rfl
theorem factsaf4 (base : Base) (hb : BaseOk base) : FactOk Tryd.prog base factsax4 := FactOk.of 1000000 mixed (tok base hb) hb.glob factsar4
def factsax5 : Fact := ⟨5, [(.str [110, 117, 108])], ⟨[], 7031, [(5476, 5), (5349, 5), (653, 5)]⟩, (.tup [(.agg [(.int .i64 0), (.int .i64 0), (.str []), .nils, .nils]), (.int .i64 2)]), ⟨[], 8306, [(5476, 5), (5349, 5), (653, 5)]⟩⟩
theorem factsar5 : factsax5.ends (callFF tree.getF (execF tree.getF 1000000) factsax5.f factsax5.args factsax5.h) = true := by kernel_rfl
theorem factsaf5 (base : Base) (hb : BaseOk base) : FactOk Tryd.prog base factsax5 := FactOk.of 1000000 mixed (tok base hb) hb.glob factsar5
def factsax6 : Fact := ⟨5, [(.str [116, 114, 117, 101])], ⟨[], 8338, [(5476, 5), (5349, 5), (653, 5)]⟩, (.tup [(.agg [(.int .i64 2), (.int .i64 1), (.str []), .nils, .nils]), (.int .i64 0)]), ⟨[], 8919, [(5476, 5), (5349, 5), (653, 5)]⟩⟩
theorem factsar6 : factsax6.ends (callFF tree.getF (execF tree.getF 1000000) factsax6.f factsax6.args factsax6.h) = true := by kernel_rfl
theorem factsaf6 (base : Base) (hb : BaseOk base) : FactOk Tryd.prog base factsax6 := FactOk.of 1000000 mixed (tok base hb) hb.glob factsar6
def factsax7 : Fact := ⟨5, [(.str [116, 114, 117, 101, 120])], ⟨[], 8951, [(5476, 5), (5349, 5), (653, 5)]⟩, (.tup [(.agg [(.int .i64 0), (.int .i64 0), (.str []), .nils, .nils]), (.int .i64 2)]), ⟨[], 9651, [(5476, 5), (5349, 5), (653, 5)]⟩⟩
theorem factsar7 : factsax7.ends (callFF tree.getF (execF tree.getF 1000000) factsax7.f factsax7.args factsax7.h) = true := by kernel_rfl
theorem factsaf7 (base : Base) (hb : BaseOk base) : FactOk Tryd.prog base factsax7 := FactOk.of 1000000 mixed (tok base hb) hb.glob factsar7
def factsax8 : Fact := ⟨5, [(.str [102, 97, 108, 115, 101, 32])], ⟨[], 9683, [(5476, 5), (5349, 5), (653, 5)]⟩, (.tup [(.agg [(.int .i64 2), (.int .i64 0), (.str []), .nils, .nils]), (.int .i64 0)]), ⟨[], 10565, [(5476, 5), (5349, 5), (653, 5)]⟩⟩
theorem factsar8 : factsax8.ends (callFF tree.getF (execF tree.getF 1000000) factsax8.f factsax8.args factsax8.h) = true := by kernel_rfl
theorem factsaf8 (base : Base) (hb : BaseOk base) : FactOk Tryd.prog base factsax8 := FactOk.of 1000000 mixed (tok base hb) hb.glob factsar8
def factsax9 : Fact := ⟨5, [(.str [48])], ⟨[], 10597, [(5476, 5), (5349, 5), (653, 5)]⟩, (.tup [(.agg [(.int .i64 3), (.int .i64 0), (.str []), .nils, .nils]), (.int .i64 0)]), ⟨[], 11884, [(5476, 5), (5349, 5), (653, 5)]⟩⟩
theorem factsar9 : factsax9.ends (callFF tree.getF (execF tree.getF 1000000) factsax9.f factsax9.args factsax9.h) = true := by kernel_rfl
theorem factsaf9 (base : Base) (hb : BaseOk base) : FactOk Tryd.prog base factsax9 := FactOk.of 1000000 mixed (tok base hb) hb.glob factsar9
def factsax10 : Fact := ⟨5, [(.str [45, 48])], ⟨[], 11916, [(5476, 5), (5349, 5), (653, 5)]⟩, (.tup [(.agg [(.int .i64 3), (.int .i64 0), (.str []), .nils, .nils]), (.int .i64 0)]), ⟨[], 13216, [(5476, 5), (5349, 5), (653, 5)]⟩⟩
theorem factsar10 : factsax10.ends (callFF tree.getF (execF tree.getF 1000000) factsax10.f factsax10.args factsax10.h) = true := by kernel_rfl
theorem factsaf10 (base : Base) (hb : BaseOk base) : FactOk Tryd.prog base factsax10 := FactOk.of 1000000 mixed (tok base hb) hb.glob factsar10
def factsax11 : Fact := ⟨5, [(.str [45])], ⟨[], 13248, [(5476, 5), (5349, 5), (653, 5)]⟩, (.tup [(.agg [(.int .i64 0), (.int .i64 0), (.str []), .nils, .nils]), (.int .i64 2)]), ⟨[], 14248, [(5476, 5), (5349, 5), (653, 5)]⟩⟩
theorem factsar11 : factsax11.ends (callFF tree.getF (execF tree.getF 1000000) factsax11.f factsax11.args factsax11.h) = true := by kernel_rfl
theorem factsaf11 (base : Base) (hb : BaseOk base) : FactOk Tryd.prog base factsax11 := FactOk.of 1000000 mixed (tok base hb) hb.glob factsar11
def factsax12 : Fact := ⟨5, [(.str [48, 49])], ⟨[], 14280, [(5476, 5), (5349, 5), (653, 5)]⟩, (.tup [(.agg [(.int .i64 0), (.int .i64 0), (.str []), .nils, .nils]), (.int .i64 2)]), ⟨[], 15644, [(5476, 5), (5349, 5), (653, 5)]⟩⟩
theorem factsar12 : factsax12.ends (callFF tree.getF (execF tree.getF 1000000) factsax12.f factsax12.args factsax12.h) = true := by kernel_rfl
theorem factsaf12 (base : Base) (hb : BaseOk base) : FactOk Tryd.prog base factsax12 := FactOk.of 1000000 mixed (tok base hb) hb.glob factsar12
end Go.Proofs.YtfhhabajfojjoaaDoor.IrA
