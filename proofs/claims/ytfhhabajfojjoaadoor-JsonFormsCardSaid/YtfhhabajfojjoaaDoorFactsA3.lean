/- Calls that have been run: part 3. -/
import Derived.Test.YtfhhabajfojjoaaDoorIrA
set_option maxRecDepth 100000
set_option linter.unusedVariables false
namespace Go.Proofs.YtfhhabajfojjoaaDoor.IrA
open Go Go.CI

def factsax21 : Fact := ⟨5, [(.str [91, 93])], ⟨[], 30843, [(30650, 5), (5476, 5), (5349, 5), (653, 5)]⟩, (.tup [(.agg [(.int .i64 5), (.int .i64 0), (.str []), .nils, .nils]), (.int .i64 0)]), ⟨[], 31283, [(30650, 5), (5476, 5), (5349, 5), (653, 5)]⟩⟩
theorem factsar21 : factsax21.ends (callFF tree.getF (execF tree.getF 1000000) factsax21.f factsax21.args factsax21.h) = true := by kernel_rfl
theorem factsaf21 (base : Base) (hb : BaseOk base) : FactOk Tryd.prog base factsax21 := FactOk.of 1000000 mixed (tok base hb) hb.glob factsar21
def factsax22 : Fact := ⟨5, [(.str [91, 49, 44, 93])], ⟨[], 31315, [(30650, 5), (5476, 5), (5349, 5), (653, 5)]⟩, (.tup [(.agg [(.int .i64 0), (.int .i64 0), (.str []), .nils, .nils]), (.int .i64 2)]), ⟨[], 34716, [(30650, 5), (5476, 5), (5349, 5), (653, 5)]⟩⟩
theorem factsar22 : factsax22.ends (callFF tree.getF (execF tree.getF 1000000) factsax22.f factsax22.args factsax22.h) = true := by kernel_rfl
theorem factsaf22 (base : Base) (hb : BaseOk base) : FactOk Tryd.prog base factsax22 := FactOk.of 1000000 mixed (tok base hb) hb.glob factsar22
def factsax23 : Fact := ⟨5, [(.str [91, 44, 49, 93])], ⟨[], 34748, [(30650, 5), (5476, 5), (5349, 5), (653, 5)]⟩, (.tup [(.agg [(.int .i64 0), (.int .i64 0), (.str []), .nils, .nils]), (.int .i64 2)]), ⟨[], 36611, [(30650, 5), (5476, 5), (5349, 5), (653, 5)]⟩⟩
theorem factsar23 : factsax23.ends (callFF tree.getF (execF tree.getF 1000000) factsax23.f factsax23.args factsax23.h) = true := by kernel_rfl
theorem factsaf23 (base : Base) (hb : BaseOk base) : FactOk Tryd.prog base factsax23 := FactOk.of 1000000 mixed (tok base hb) hb.glob factsar23
def factsax24 : Fact := ⟨5, [(.str [91, 49, 32, 50, 93])], ⟨[], 36643, [(30650, 5), (5476, 5), (5349, 5), (653, 5)]⟩, (.tup [(.agg [(.int .i64 0), (.int .i64 0), (.str []), .nils, .nils]), (.int .i64 2)]), ⟨[], 38862, [(30650, 5), (5476, 5), (5349, 5), (653, 5)]⟩⟩
theorem factsar24 : factsax24.ends (callFF tree.getF (execF tree.getF 1000000) factsax24.f factsax24.args factsax24.h) = true := by kernel_rfl
theorem factsaf24 (base : Base) (hb : BaseOk base) : FactOk Tryd.prog base factsax24 := FactOk.of 1000000 mixed (tok base hb) hb.glob factsar24
def factsax25 : Fact := ⟨5, [(.str [123, 125])], ⟨[], 38894, [(30650, 5), (5476, 5), (5349, 5), (653, 5)]⟩, (.tup [(.agg [(.int .i64 6), (.int .i64 0), (.str []), .nils, .nils]), (.int .i64 0)]), ⟨[], 39336, [(30650, 5), (5476, 5), (5349, 5), (653, 5)]⟩⟩
theorem factsar25 : factsax25.ends (callFF tree.getF (execF tree.getF 1000000) factsax25.f factsax25.args factsax25.h) = true := by kernel_rfl
theorem factsaf25 (base : Base) (hb : BaseOk base) : FactOk Tryd.prog base factsax25 := FactOk.of 1000000 mixed (tok base hb) hb.glob factsar25
def factsax26 : Fact := ⟨5, [(.str [123, 34, 97, 34, 58, 49, 44, 125])], ⟨[], 39368, [(30650, 5), (5476, 5), (5349, 5), (653, 5)]⟩, (.tup [(.agg [(.int .i64 0), (.int .i64 0), (.str []), .nils, .nils]), (.int .i64 2)]), ⟨[], 42435, [(40010, 5), (30650, 5), (5476, 5), (5349, 5), (653, 5)]⟩⟩
theorem factsar26 : factsax26.ends (callFF tree.getF (execF tree.getF 1000000) factsax26.f factsax26.args factsax26.h) = true := by kernel_rfl
theorem factsaf26 (base : Base) (hb : BaseOk base) : FactOk Tryd.prog base factsax26 := FactOk.of 1000000 mixed (tok base hb) hb.glob factsar26
def factsax27 : Fact := ⟨5, [(.str [123, 34, 97, 34, 125])], ⟨[], 42467, [(40010, 5), (30650, 5), (5476, 5), (5349, 5), (653, 5)]⟩, (.tup [(.agg [(.int .i64 0), (.int .i64 0), (.str []), .nils, .nils]), (.int .i64 2)]), ⟨[], 43620, [(43109, 5), (40010, 5), (30650, 5), (5476, 5), (5349, 5), (653, 5)]⟩⟩
theorem factsar27 : factsax27.ends (callFF tree.getF (execF tree.getF 1000000) factsax27.f factsax27.args factsax27.h) = true := by kernel_rfl
theorem factsaf27 (base : Base) (hb : BaseOk base) : FactOk Tryd.prog base factsax27 := FactOk.of 1000000 mixed (tok base hb) hb.glob factsar27
def factsax28 : Fact := ⟨5, [(.str [123, 97, 58, 49, 125])], ⟨[], 43652, [(43109, 5), (40010, 5), (30650, 5), (5476, 5), (5349, 5), (653, 5)]⟩, (.tup [(.agg [(.int .i64 0), (.int .i64 0), (.str []), .nils, .nils]), (.int .i64 2)]), ⟨[], 44653, [(43109, 5), (40010, 5), (30650, 5), (5476, 5), (5349, 5), (653, 5)]⟩⟩
theorem factsar28 : factsax28.ends (callFF tree.getF (execF tree.getF 1000000) factsax28.f factsax28.args factsax28.h) = true := by kernel_rfl
theorem factsaf28 (base : Base) (hb : BaseOk base) : FactOk Tryd.prog base factsax28 := FactOk.of 1000000 mixed (tok base hb) hb.glob factsar28
def factsax29 : Fact := ⟨5, [(.str [123, 34, 97, 34, 58, 49, 44, 34, 97, 34, 58, 50, 125])], ⟨[], 44685, [(43109, 5), (40010, 5), (30650, 5), (5476, 5), (5349, 5), (653, 5)]⟩, (.tup [(.agg [(.int .i64 0), (.int .i64 0), (.str []), .nils, .nils]), (.int .i64 5)]), ⟨[], 47905, [(47382, 5), (45327, 5), (43109, 5), (40010, 5), (30650, 5), (5476, 5), (5349, 5), (653, 5)]⟩⟩
theorem factsar29 : factsax29.ends (callFF tree.getF (execF tree.getF 1000000) factsax29.f factsax29.args factsax29.h) = true := by kernel_rfl
theorem factsaf29 (base : Base) (hb : BaseOk base) : FactOk Tryd.prog base factsax29 := FactOk.of 1000000 mixed (tok base hb) hb.glob factsar29
end Go.Proofs.YtfhhabajfojjoaaDoor.IrA
