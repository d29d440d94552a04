/- Closed facts of the rows, part 2. Printed by genj.py. No condition. -/
import Derived.JoinedOf
import Derived.KernelRfl
import Derived.Test.YtkihpcjfhilgcaaGreatRows
namespace Go.Abs
open Go.Proofs Go.Proofs.YtkihpcjfhilgcaaGreat
set_option maxRecDepth 1000000 in
theorem j3_26 : Tryz.prog.mayEnter = true := by kernel_rfl
set_option maxRecDepth 1000000 in
theorem j3_27 : (Rows.topEverySaveRow.lifted == Tryz.prog.liftsFinal) = true := by kernel_rfl
set_option maxRecDepth 1000000 in
theorem j3_28 : (Tryz.prog.make == some Rows.topEverySaveRow.make) = true := by kernel_rfl
end Go.Abs

/- Closed facts of the rows, part 3. Printed by genj.py. No condition. -/
namespace Go.Abs
open Go.Proofs Go.Proofs.YtkihpcjfhilgcaaGreat
set_option maxRecDepth 1000000 in
theorem j3_1 : Rows.topEverySaveRow.wf (OpenSpec.ofChange Rows.topEverySaveSpec) = true := by kernel_rfl
set_option maxRecDepth 1000000 in
theorem j3_4 : Tryz.f3.params.all (Tryz.prog.readableRec ·) = true := by kernel_rfl
set_option maxRecDepth 1000000 in
theorem j3_5 : namedTie Tryz.prog Rows.topEverySaveRow.named Rows.topEverySaveSpec.vars = true := by kernel_rfl
set_option maxRecDepth 1000000 in
theorem j3_6 : (Rows.topEverySaveRow.stops == []) = true := by kernel_rfl
set_option maxRecDepth 1000000 in
theorem j3_8 : (Rows.topEverySaveRow.knobs == []) = true := by kernel_rfl
end Go.Abs

/- Closed facts of the rows, part 4. Printed by genj.py. No condition. -/
namespace Go.Abs
open Go.Proofs Go.Proofs.YtkihpcjfhilgcaaGreat
set_option maxRecDepth 1000000 in
theorem j3_14 : (Rows.topEverySaveRow.maps == (Tryz.f3.params.toList ++ Rows.topEverySaveSpec.plain.varTypes Tryz.prog).any (Tryz.prog.mapsRec ·)) = true := by kernel_rfl
set_option maxRecDepth 1000000 in
theorem j3_15 : (Rows.topEverySaveRow.ifaces == (Tryz.f3.params.toList ++ Rows.topEverySaveSpec.plain.varTypes Tryz.prog).any (Tryz.prog.ifacesRec ·)) = true := by kernel_rfl
set_option maxRecDepth 1000000 in
theorem j3_16 : (Rows.topEverySaveRow.mapsOut == Tryz.prog.mapsAmong Tryz.f3.resultTypes.toList) = true := by kernel_rfl
set_option maxRecDepth 1000000 in
theorem j3_17 : (Rows.topEverySaveRow.loops == (Tryz.f3.params.toList ++ Rows.topEverySaveSpec.plain.varTypes Tryz.prog).any (Tryz.prog.loopsFrom ·)) = true := by kernel_rfl
set_option maxRecDepth 1000000 in
theorem j3_18 : (Rows.topEverySaveRow.wideKeys == (Tryz.f3.params.toList ++ Rows.topEverySaveSpec.plain.varTypes Tryz.prog ++ Tryz.f3.resultTypes.toList).any (Tryz.prog.wideKeysFrom ·)) = true := by kernel_rfl
end Go.Abs

/- Closed facts of the rows, part 5. Printed by genj.py. No condition. -/
namespace Go.Abs
open Go.Proofs Go.Proofs.YtkihpcjfhilgcaaGreat
set_option maxRecDepth 1000000 in
theorem j3_19 : Rows.topEverySaveSpec.vars.all (Tryz.prog.varReadable ·) = true := by kernel_rfl
set_option maxRecDepth 1000000 in
theorem j3_20 : Tryz.f3.resultTypes.all (fun t => Tryz.prog.readableRec t && decide (t < Tryz.prog.types.size)) = true := by kernel_rfl
set_option maxRecDepth 1000000 in
theorem j3_21 : (Rows.topEverySaveRow.ifacesOut == Tryz.f3.resultTypes.toList.any (Tryz.prog.ifacesRec ·)) = true := by kernel_rfl
set_option maxRecDepth 1000000 in
theorem j3_22 : (Rows.topEverySaveRow.loopsOut == Tryz.f3.resultTypes.toList.any (Tryz.prog.loopsFrom ·)) = true := by kernel_rfl
set_option maxRecDepth 1000000 in
theorem j3_23 : (Rows.topEverySaveRow.plainKeys == Tryz.prog.plainKeys) = true := by kernel_rfl
set_option maxRecDepth 1000000 in
theorem j3_24 : Rows.topEverySaveRow.shortTexts.isNone = true := by kernel_rfl
set_option maxRecDepth 1000000 in
theorem j3_29 : (Rows.topEverySaveRow.kinds == (if Rows.topEverySaveRow.domain.isEmpty then [] else Tryz.f3.params.toList.map fun t => match Tryz.prog.underlying t with | some (.int k) => some k | _ => none)) = true := by kernel_rfl
set_option maxRecDepth 1000000 in
theorem j3_30 : (Rows.topEverySaveRow.pinned == Rows.topEverySaveRow.pinnedBy) = true := by kernel_rfl
set_option maxRecDepth 1000000 in
theorem j3_31 : (Rows.topEverySaveRow.veiled == (Tryz.f3.params.toList ++ Rows.topEverySaveSpec.plain.varTypes Tryz.prog ++ Tryz.f3.resultTypes.toList).any (Tryz.prog.veiledRec ·)) = true := by kernel_rfl
set_option maxRecDepth 1000000 in
theorem j3_32 : Rows.topEverySaveRow.veiledFits Tryz.prog Tryz.f3.params.toList (Tryz.f3.params.toList ++ Rows.topEverySaveSpec.plain.varTypes Tryz.prog ++ Tryz.f3.resultTypes.toList) = true := by kernel_rfl
end Go.Abs
