/- Calls that have been run: part 2. -/
import Derived.Test.YtfhhabajfojjoaaDoorIrA
set_option maxRecDepth 100000
set_option linter.unusedVariables false
namespace Go.Proofs.YtfhhabajfojjoaaDoor.IrA
open Go Go.CI

def factsax13 : Fact := ⟨5, [(.str [45, 48, 49])], ⟨[], 15676, [(5476, 5), (5349, 5), (653, 5)]⟩, (.tup [(.agg [(.int .i64 0), (.int .i64 0), (.str []), .nils, .nils]), (.int .i64 2)]), ⟨[], 17053, [(5476, 5), (5349, 5), (653, 5)]⟩⟩
theorem factsar13 : factsax13.ends (callFF tree.getF (execF tree.getF 1000000) factsax13.f factsax13.args factsax13.h) = true := by kernel_rfl
theorem factsaf13 (base : Base) (hb : BaseOk base) : FactOk Tryd.prog base factsax13 := FactOk.of 1000000 mixed (tok base hb) hb.glob factsar13
def factsax14 : Fact := ⟨5, [(.str [49, 46, 53])], ⟨[], 17085, [(5476, 5), (5349, 5), (653, 5)]⟩, (.tup [(.agg [(.int .i64 0), (.int .i64 0), (.str []), .nils, .nils]), (.int .i64 2)]), ⟨[], 18503, [(5476, 5), (5349, 5), (653, 5)]⟩⟩
theorem factsar14 : factsax14.ends (callFF tree.getF (execF tree.getF 1000000) factsax14.f factsax14.args factsax14.h) = true := by kernel_rfl
theorem factsaf14 (base : Base) (hb : BaseOk base) : FactOk Tryd.prog base factsax14 := FactOk.of 1000000 mixed (tok base hb) hb.glob factsar14
def factsax15 : Fact := ⟨5, [(.str [49, 101, 50])], ⟨[], 18535, [(5476, 5), (5349, 5), (653, 5)]⟩, (.tup [(.agg [(.int .i64 0), (.int .i64 0), (.str []), .nils, .nils]), (.int .i64 2)]), ⟨[], 19953, [(5476, 5), (5349, 5), (653, 5)]⟩⟩
theorem factsar15 : factsax15.ends (callFF tree.getF (execF tree.getF 1000000) factsax15.f factsax15.args factsax15.h) = true := by kernel_rfl
theorem factsaf15 (base : Base) (hb : BaseOk base) : FactOk Tryd.prog base factsax15 := FactOk.of 1000000 mixed (tok base hb) hb.glob factsar15
def factsax16 : Fact := ⟨5, [(.str [57, 50, 50, 51, 51, 55, 50, 48, 51, 54, 56, 53, 52, 55, 55, 53, 56, 48, 55])], ⟨[], 19985, [(5476, 5), (5349, 5), (653, 5)]⟩, (.tup [(.agg [(.int .i64 3), (.int .i64 9223372036854775807), (.str []), .nils, .nils]), (.int .i64 0)]), ⟨[], 22496, [(5476, 5), (5349, 5), (653, 5)]⟩⟩
theorem factsar16 : factsax16.ends (callFF tree.getF (execF tree.getF 1000000) factsax16.f factsax16.args factsax16.h) = true := by kernel_rfl
theorem factsaf16 (base : Base) (hb : BaseOk base) : FactOk Tryd.prog base factsax16 := FactOk.of 1000000 mixed (tok base hb) hb.glob factsar16
def factsax17 : Fact := ⟨5, [(.str [57, 50, 50, 51, 51, 55, 50, 48, 51, 54, 56, 53, 52, 55, 55, 53, 56, 48, 56])], ⟨[], 22528, [(5476, 5), (5349, 5), (653, 5)]⟩, (.tup [(.agg [(.int .i64 0), (.int .i64 0), (.str []), .nils, .nils]), (.int .i64 2)]), ⟨[], 25067, [(5476, 5), (5349, 5), (653, 5)]⟩⟩
theorem factsar17 : factsax17.ends (callFF tree.getF (execF tree.getF 1000000) factsax17.f factsax17.args factsax17.h) = true := by kernel_rfl
theorem factsaf17 (base : Base) (hb : BaseOk base) : FactOk Tryd.prog base factsax17 := FactOk.of 1000000 mixed (tok base hb) hb.glob factsar17
def factsax18 : Fact := ⟨5, [(.str [45, 57, 50, 50, 51, 51, 55, 50, 48, 51, 54, 56, 53, 52, 55, 55, 53, 56, 48, 56])], ⟨[], 25099, [(5476, 5), (5349, 5), (653, 5)]⟩, (.tup [(.agg [(.int .i64 3), (.int .i64 (-9223372036854775808)), (.str []), .nils, .nils]), (.int .i64 0)]), ⟨[], 27623, [(5476, 5), (5349, 5), (653, 5)]⟩⟩
theorem factsar18 : factsax18.ends (callFF tree.getF (execF tree.getF 1000000) factsax18.f factsax18.args factsax18.h) = true := by kernel_rfl
theorem factsaf18 (base : Base) (hb : BaseOk base) : FactOk Tryd.prog base factsax18 := FactOk.of 1000000 mixed (tok base hb) hb.glob factsar18
def factsax19 : Fact := ⟨5, [(.str [45, 57, 50, 50, 51, 51, 55, 50, 48, 51, 54, 56, 53, 52, 55, 55, 53, 56, 48, 57])], ⟨[], 27655, [(5476, 5), (5349, 5), (653, 5)]⟩, (.tup [(.agg [(.int .i64 0), (.int .i64 0), (.str []), .nils, .nils]), (.int .i64 2)]), ⟨[], 30210, [(5476, 5), (5349, 5), (653, 5)]⟩⟩
theorem factsar19 : factsax19.ends (callFF tree.getF (execF tree.getF 1000000) factsax19.f factsax19.args factsax19.h) = true := by kernel_rfl
theorem factsaf19 (base : Base) (hb : BaseOk base) : FactOk Tryd.prog base factsax19 := FactOk.of 1000000 mixed (tok base hb) hb.glob factsar19
def factsax20 : Fact := ⟨5, [(.str [34, 97, 34])], ⟨[], 30242, [(5476, 5), (5349, 5), (653, 5)]⟩, (.tup [(.agg [(.int .i64 4), (.int .i64 0), (.str [97]), .nils, .nils]), (.int .i64 0)]), ⟨[], 30811, [(30650, 5), (5476, 5), (5349, 5), (653, 5)]⟩⟩
theorem factsar20 : factsax20.ends (callFF tree.getF (execF tree.getF 1000000) factsax20.f factsax20.args factsax20.h) = true := by kernel_rfl
theorem factsaf20 (base : Base) (hb : BaseOk base) : FactOk Tryd.prog base factsax20 := FactOk.of 1000000 mixed (tok base hb) hb.glob factsar20
end Go.Proofs.YtfhhabajfojjoaaDoor.IrA
