/- Calls that have been run: part 3. -/
import Derived.Test.YtcehpodknbjimaaDoorIrA
set_option maxRecDepth 100000
set_option linter.unusedVariables false
namespace Go.Proofs.YtcehpodknbjimaaDoor.IrA
open Go Go.CI

def factsax17 : Fact := ⟨10, [(.str [49, 56, 52, 52, 54, 55, 52, 52, 48, 55, 51, 55, 48, 57, 53, 53, 49, 54, 49, 54, 97])], ⟨[], 27966, []⟩, (.tup [.nils, (.int .i64 3), (.int .i64 0)]), ⟨[], 30195, []⟩⟩
theorem factsar17 : factsax17.ends (callFF tree.getF (execF tree.getF 1000000) factsax17.f factsax17.args factsax17.h) = true := by kernel_rfl
theorem factsaf17 (base : Base) (hb : BaseOk base) : FactOk Tryd.prog base factsax17 := FactOk.of 1000000 mixed (tok base hb) hb.glob factsar17
def factsax18 : Fact := ⟨10, [(.str [49, 97])], ⟨[], 30228, []⟩, (.tup [.nils, (.int .i64 2), (.int .i64 0)]), ⟨[], 31149, []⟩⟩
theorem factsar18 : factsax18.ends (callFF tree.getF (execF tree.getF 1000000) factsax18.f factsax18.args factsax18.h) = true := by kernel_rfl
theorem factsaf18 (base : Base) (hb : BaseOk base) : FactOk Tryd.prog base factsax18 := FactOk.of 1000000 mixed (tok base hb) hb.glob factsar18
def factsax19 : Fact := ⟨10, [(.str [49, 46])], ⟨[], 31182, []⟩, (.tup [.nils, (.int .i64 2), (.int .i64 0)]), ⟨[], 32103, []⟩⟩
theorem factsar19 : factsax19.ends (callFF tree.getF (execF tree.getF 1000000) factsax19.f factsax19.args factsax19.h) = true := by kernel_rfl
theorem factsaf19 (base : Base) (hb : BaseOk base) : FactOk Tryd.prog base factsax19 := FactOk.of 1000000 mixed (tok base hb) hb.glob factsar19
def factsax20 : Fact := ⟨10, [(.str [39, 97, 34, 98, 39])], ⟨[], 32136, []⟩, (.tup [(.imm .none 4 [(.agg [(.int .i64 3), (.str [97, 34, 98]), (.int .u64 0), (.int .i64 0)]), (.agg [(.int .i64 5), (.str []), (.int .u64 0), (.int .i64 5)])]), (.int .i64 0), (.int .i64 0)]), ⟨[], 32920, [(32553, 5)]⟩⟩
theorem factsar20 : factsax20.ends (callFF tree.getF (execF tree.getF 1000000) factsax20.f factsax20.args factsax20.h) = true := by kernel_rfl
theorem factsaf20 (base : Base) (hb : BaseOk base) : FactOk Tryd.prog base factsax20 := FactOk.of 1000000 mixed (tok base hb) hb.glob factsar20
def factsax21 : Fact := ⟨10, [(.str [39, 97])], ⟨[], 32953, [(32553, 5)]⟩, (.tup [.nils, (.int .i64 2), (.int .i64 0)]), ⟨[], 33441, [(33370, 5), (32553, 5)]⟩⟩
theorem factsar21 : factsax21.ends (callFF tree.getF (execF tree.getF 1000000) factsax21.f factsax21.args factsax21.h) = true := by kernel_rfl
theorem factsaf21 (base : Base) (hb : BaseOk base) : FactOk Tryd.prog base factsax21 := FactOk.of 1000000 mixed (tok base hb) hb.glob factsar21
def factsax22 : Fact := ⟨10, [(.str [39, 97, 10, 98, 39])], ⟨[], 33474, [(33370, 5), (32553, 5)]⟩, (.tup [.nils, (.int .i64 2), (.int .i64 0)]), ⟨[], 33976, [(33891, 5), (33370, 5), (32553, 5)]⟩⟩
theorem factsar22 : factsax22.ends (callFF tree.getF (execF tree.getF 1000000) factsax22.f factsax22.args factsax22.h) = true := by kernel_rfl
theorem factsaf22 (base : Base) (hb : BaseOk base) : FactOk Tryd.prog base factsax22 := FactOk.of 1000000 mixed (tok base hb) hb.glob factsar22
def factsax23 : Fact := ⟨10, [(.str [39, 92, 110, 92, 39, 92, 92, 39])], ⟨[], 34009, [(33891, 5), (33370, 5), (32553, 5)]⟩, (.tup [(.imm .none 4 [(.agg [(.int .i64 3), (.str [10, 39, 92]), (.int .u64 0), (.int .i64 0)]), (.agg [(.int .i64 5), (.str []), (.int .u64 0), (.int .i64 8)])]), (.int .i64 0), (.int .i64 0)]), ⟨[], 34889, [(34458, 5), (33891, 5), (33370, 5), (32553, 5)]⟩⟩
theorem factsar23 : factsax23.ends (callFF tree.getF (execF tree.getF 1000000) factsax23.f factsax23.args factsax23.h) = true := by kernel_rfl
theorem factsaf23 (base : Base) (hb : BaseOk base) : FactOk Tryd.prog base factsax23 := FactOk.of 1000000 mixed (tok base hb) hb.glob factsar23
def factsax24 : Fact := ⟨10, [(.str [39, 92, 120, 39])], ⟨[], 34922, [(34458, 5), (33891, 5), (33370, 5), (32553, 5)]⟩, (.tup [.nils, (.int .i64 2), (.int .i64 0)]), ⟨[], 35414, [(34458, 5), (33891, 5), (33370, 5), (32553, 5)]⟩⟩
theorem factsar24 : factsax24.ends (callFF tree.getF (execF tree.getF 1000000) factsax24.f factsax24.args factsax24.h) = true := by kernel_rfl
theorem factsaf24 (base : Base) (hb : BaseOk base) : FactOk Tryd.prog base factsax24 := FactOk.of 1000000 mixed (tok base hb) hb.glob factsar24
def factsax25 : Fact := ⟨10, [(.str [39, 255, 39])], ⟨[], 35447, [(34458, 5), (33891, 5), (33370, 5), (32553, 5)]⟩, (.tup [.nils, (.int .i64 2), (.int .i64 0)]), ⟨[], 36011, [(35864, 5), (34458, 5), (33891, 5), (33370, 5), (32553, 5)]⟩⟩
theorem factsar25 : factsax25.ends (callFF tree.getF (execF tree.getF 1000000) factsax25.f factsax25.args factsax25.h) = true := by kernel_rfl
theorem factsaf25 (base : Base) (hb : BaseOk base) : FactOk Tryd.prog base factsax25 := FactOk.of 1000000 mixed (tok base hb) hb.glob factsar25
def factsax26 : Fact := ⟨10, [(.str [47, 42, 32, 97])], ⟨[], 36044, [(35864, 5), (34458, 5), (33891, 5), (33370, 5), (32553, 5)]⟩, (.tup [.nils, (.int .i64 2), (.int .i64 0)]), ⟨[], 36375, [(35864, 5), (34458, 5), (33891, 5), (33370, 5), (32553, 5)]⟩⟩
theorem factsar26 : factsax26.ends (callFF tree.getF (execF tree.getF 1000000) factsax26.f factsax26.args factsax26.h) = true := by kernel_rfl
theorem factsaf26 (base : Base) (hb : BaseOk base) : FactOk Tryd.prog base factsax26 := FactOk.of 1000000 mixed (tok base hb) hb.glob factsar26
def factsax27 : Fact := ⟨10, [(.str [47, 42, 32, 97, 32, 42, 47, 32, 98])], ⟨[], 36408, [(35864, 5), (34458, 5), (33891, 5), (33370, 5), (32553, 5)]⟩, (.tup [(.imm .none 4 [(.agg [(.int .i64 1), (.str [98]), (.int .u64 0), (.int .i64 8)]), (.agg [(.int .i64 5), (.str []), (.int .u64 0), (.int .i64 9)])]), (.int .i64 0), (.int .i64 0)]), ⟨[], 38307, [(35864, 5), (34458, 5), (33891, 5), (33370, 5), (32553, 5)]⟩⟩
theorem factsar27 : factsax27.ends (callFF tree.getF (execF tree.getF 1000000) factsax27.f factsax27.args factsax27.h) = true := by kernel_rfl
theorem factsaf27 (base : Base) (hb : BaseOk base) : FactOk Tryd.prog base factsax27 := FactOk.of 1000000 mixed (tok base hb) hb.glob factsar27
def factsax28 : Fact := ⟨10, [(.str [47, 47, 32, 97])], ⟨[], 38340, [(35864, 5), (34458, 5), (33891, 5), (33370, 5), (32553, 5)]⟩, (.tup [(.imm .none 4 [(.agg [(.int .i64 5), (.str []), (.int .u64 0), (.int .i64 4)])]), (.int .i64 0), (.int .i64 0)]), ⟨[], 38723, [(35864, 5), (34458, 5), (33891, 5), (33370, 5), (32553, 5)]⟩⟩
theorem factsar28 : factsax28.ends (callFF tree.getF (execF tree.getF 1000000) factsax28.f factsax28.args factsax28.h) = true := by kernel_rfl
theorem factsaf28 (base : Base) (hb : BaseOk base) : FactOk Tryd.prog base factsax28 := FactOk.of 1000000 mixed (tok base hb) hb.glob factsar28
def factsax29 : Fact := ⟨10, [(.str [47])], ⟨[], 38756, [(35864, 5), (34458, 5), (33891, 5), (33370, 5), (32553, 5)]⟩, (.tup [.nils, (.int .i64 2), (.int .i64 0)]), ⟨[], 39190, [(35864, 5), (34458, 5), (33891, 5), (33370, 5), (32553, 5)]⟩⟩
theorem factsar29 : factsax29.ends (callFF tree.getF (execF tree.getF 1000000) factsax29.f factsax29.args factsax29.h) = true := by kernel_rfl
theorem factsaf29 (base : Base) (hb : BaseOk base) : FactOk Tryd.prog base factsax29 := FactOk.of 1000000 mixed (tok base hb) hb.glob factsar29
def factsax30 : Fact := ⟨10, [(.str [97, 47, 98])], ⟨[], 39223, [(35864, 5), (34458, 5), (33891, 5), (33370, 5), (32553, 5)]⟩, (.tup [.nils, (.int .i64 2), (.int .i64 1)]), ⟨[], 41136, [(35864, 5), (34458, 5), (33891, 5), (33370, 5), (32553, 5)]⟩⟩
theorem factsar30 : factsax30.ends (callFF tree.getF (execF tree.getF 1000000) factsax30.f factsax30.args factsax30.h) = true := by kernel_rfl
theorem factsaf30 (base : Base) (hb : BaseOk base) : FactOk Tryd.prog base factsax30 := FactOk.of 1000000 mixed (tok base hb) hb.glob factsar30
def factsax31 : Fact := ⟨10, [(.str [45])], ⟨[], 41169, [(35864, 5), (34458, 5), (33891, 5), (33370, 5), (32553, 5)]⟩, (.tup [(.imm .none 4 [(.agg [(.int .i64 4), (.str [45]), (.int .u64 0), (.int .i64 0)]), (.agg [(.int .i64 5), (.str []), (.int .u64 0), (.int .i64 1)])]), (.int .i64 0), (.int .i64 0)]), ⟨[], 41704, [(35864, 5), (34458, 5), (33891, 5), (33370, 5), (32553, 5)]⟩⟩
theorem factsar31 : factsax31.ends (callFF tree.getF (execF tree.getF 1000000) factsax31.f factsax31.args factsax31.h) = true := by kernel_rfl
theorem factsaf31 (base : Base) (hb : BaseOk base) : FactOk Tryd.prog base factsax31 := FactOk.of 1000000 mixed (tok base hb) hb.glob factsar31
end Go.Proofs.YtcehpodknbjimaaDoor.IrA
