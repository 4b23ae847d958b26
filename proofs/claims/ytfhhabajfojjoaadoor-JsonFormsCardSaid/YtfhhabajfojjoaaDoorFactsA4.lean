/- Calls that have been run: part 4. -/
import Derived.Test.YtfhhabajfojjoaaDoorIrA
set_option maxRecDepth 100000
set_option linter.unusedVariables false
namespace Go.Proofs.YtfhhabajfojjoaaDoor.IrA
open Go Go.CI

def factsax30 : Fact := ⟨5, [(.str [123, 34, 97, 34, 58, 49, 32, 34, 98, 34, 58, 50, 125])], ⟨[], 47937, [(47382, 5), (45327, 5), (43109, 5), (40010, 5), (30650, 5), (5476, 5), (5349, 5), (653, 5)]⟩, (.tup [(.agg [(.int .i64 0), (.int .i64 0), (.str []), .nils, .nils]), (.int .i64 2)]), ⟨[], 50763, [(48579, 5), (47382, 5), (45327, 5), (43109, 5), (40010, 5), (30650, 5), (5476, 5), (5349, 5), (653, 5)]⟩⟩
theorem factsar30 : factsax30.ends (callFF tree.getF (execF tree.getF 1000000) factsax30.f factsax30.args factsax30.h) = true := by kernel_rfl
theorem factsaf30 (base : Base) (hb : BaseOk base) : FactOk Tryd.prog base factsax30 := FactOk.of 1000000 mixed (tok base hb) hb.glob factsar30
def factsax31 : Fact := ⟨5, [(.str [91, 49, 93, 93])], ⟨[], 50795, [(48579, 5), (47382, 5), (45327, 5), (43109, 5), (40010, 5), (30650, 5), (5476, 5), (5349, 5), (653, 5)]⟩, (.tup [(.agg [(.int .i64 0), (.int .i64 0), (.str []), .nils, .nils]), (.int .i64 2)]), ⟨[], 52999, [(48579, 5), (47382, 5), (45327, 5), (43109, 5), (40010, 5), (30650, 5), (5476, 5), (5349, 5), (653, 5)]⟩⟩
theorem factsar31 : factsax31.ends (callFF tree.getF (execF tree.getF 1000000) factsax31.f factsax31.args factsax31.h) = true := by kernel_rfl
theorem factsaf31 (base : Base) (hb : BaseOk base) : FactOk Tryd.prog base factsax31 := FactOk.of 1000000 mixed (tok base hb) hb.glob factsar31
def factsax32 : Fact := ⟨5, [(.str [49, 32, 50])], ⟨[], 53031, [(48579, 5), (47382, 5), (45327, 5), (43109, 5), (40010, 5), (30650, 5), (5476, 5), (5349, 5), (653, 5)]⟩, (.tup [(.agg [(.int .i64 0), (.int .i64 0), (.str []), .nils, .nils]), (.int .i64 2)]), ⟨[], 54467, [(48579, 5), (47382, 5), (45327, 5), (43109, 5), (40010, 5), (30650, 5), (5476, 5), (5349, 5), (653, 5)]⟩⟩
theorem factsar32 : factsax32.ends (callFF tree.getF (execF tree.getF 1000000) factsax32.f factsax32.args factsax32.h) = true := by kernel_rfl
theorem factsaf32 (base : Base) (hb : BaseOk base) : FactOk Tryd.prog base factsax32 := FactOk.of 1000000 mixed (tok base hb) hb.glob factsar32
def factsax33 : Fact := ⟨5, [(.str [123, 34, 97, 34, 58, 49, 44, 34, 97, 34])], ⟨[], 54499, [(48579, 5), (47382, 5), (45327, 5), (43109, 5), (40010, 5), (30650, 5), (5476, 5), (5349, 5), (653, 5)]⟩, (.tup [(.agg [(.int .i64 0), (.int .i64 0), (.str []), .nils, .nils]), (.int .i64 5)]), ⟨[], 57496, [(57196, 5), (55141, 5), (48579, 5), (47382, 5), (45327, 5), (43109, 5), (40010, 5), (30650, 5), (5476, 5), (5349, 5), (653, 5)]⟩⟩
theorem factsar33 : factsax33.ends (callFF tree.getF (execF tree.getF 1000000) factsax33.f factsax33.args factsax33.h) = true := by kernel_rfl
theorem factsaf33 (base : Base) (hb : BaseOk base) : FactOk Tryd.prog base factsax33 := FactOk.of 1000000 mixed (tok base hb) hb.glob factsar33
def factsax34 : Fact := ⟨5, [(.str [255])], ⟨[], 57528, [(57196, 5), (55141, 5), (48579, 5), (47382, 5), (45327, 5), (43109, 5), (40010, 5), (30650, 5), (5476, 5), (5349, 5), (653, 5)]⟩, (.tup [(.agg [(.int .i64 0), (.int .i64 0), (.str []), .nils, .nils]), (.int .i64 2)]), ⟨[], 58803, [(57196, 5), (55141, 5), (48579, 5), (47382, 5), (45327, 5), (43109, 5), (40010, 5), (30650, 5), (5476, 5), (5349, 5), (653, 5)]⟩⟩
theorem factsar34 : factsax34.ends (callFF tree.getF (execF tree.getF 1000000) factsax34.f factsax34.args factsax34.h) = true := by kernel_rfl
theorem factsaf34 (base : Base) (hb : BaseOk base) : FactOk Tryd.prog base factsax34 := FactOk.of 1000000 mixed (tok base hb) hb.glob factsar34
def factsax35 : Fact := ⟨5, [(.str [47, 47, 32, 97])], ⟨[], 58835, [(57196, 5), (55141, 5), (48579, 5), (47382, 5), (45327, 5), (43109, 5), (40010, 5), (30650, 5), (5476, 5), (5349, 5), (653, 5)]⟩, (.tup [(.agg [(.int .i64 0), (.int .i64 0), (.str []), .nils, .nils]), (.int .i64 2)]), ⟨[], 60110, [(57196, 5), (55141, 5), (48579, 5), (47382, 5), (45327, 5), (43109, 5), (40010, 5), (30650, 5), (5476, 5), (5349, 5), (653, 5)]⟩⟩
theorem factsar35 : factsax35.ends (callFF tree.getF (execF tree.getF 1000000) factsax35.f factsax35.args factsax35.h) = true := by kernel_rfl
theorem factsaf35 (base : Base) (hb : BaseOk base) : FactOk Tryd.prog base factsax35 := FactOk.of 1000000 mixed (tok base hb) hb.glob factsar35
end Go.Proofs.YtfhhabajfojjoaaDoor.IrA
