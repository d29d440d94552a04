/- The closed facts of the row of TopEveryUnit, its second form, joined. Printed by genj4.py. No condition. -/
import Derived.Test.YtkihpcjfhilgcaaGreatZ26
import Derived.Test.YtkihpcjfhilgcaaGreatZ27
import Derived.Test.YtkihpcjfhilgcaaGreatZ28
import Derived.Test.YtkihpcjfhilgcaaGreatZ30
import Derived.Test.YtkihpcjfhilgcaaGreatZ31
namespace Go.Abs
open Go.Proofs Go.Proofs.YtkihpcjfhilgcaaGreat
set_option maxRecDepth 1000000 in
theorem j4_1 : Rows.topEveryUnitUptoRow.wf (OpenSpec.ofChange ((Rows.OpenSpec.upto Rows.topEveryUnitSpec).bare)) = true := by kernel_rfl
set_option maxRecDepth 1000000 in
theorem j4_4 : Tryz.f4.params.all (Tryz.prog.readableRec ·) = true := by kernel_rfl
set_option maxRecDepth 1000000 in
theorem j4_5 : namedTie Tryz.prog Rows.topEveryUnitUptoRow.named ((Rows.OpenSpec.upto Rows.topEveryUnitSpec).bare).vars = true := by kernel_rfl
set_option maxRecDepth 1000000 in
theorem j4_6 : (Rows.topEveryUnitUptoRow.stops == []) = true := by kernel_rfl
set_option maxRecDepth 1000000 in
theorem j4_8 : (Rows.topEveryUnitUptoRow.knobs == []) = true := by kernel_rfl
set_option maxRecDepth 1000000 in
theorem j4_14 : (Rows.topEveryUnitUptoRow.maps == (Tryz.f4.params.toList ++ ((Rows.OpenSpec.upto Rows.topEveryUnitSpec).bare).plain.varTypes Tryz.prog).any (Tryz.prog.mapsRec ·)) = true := by kernel_rfl
set_option maxRecDepth 1000000 in
theorem j4_15 : (Rows.topEveryUnitUptoRow.ifaces == (Tryz.f4.params.toList ++ ((Rows.OpenSpec.upto Rows.topEveryUnitSpec).bare).plain.varTypes Tryz.prog).any (Tryz.prog.ifacesRec ·)) = true := by kernel_rfl
set_option maxRecDepth 1000000 in
theorem j4_16 : (Rows.topEveryUnitUptoRow.mapsOut == Tryz.prog.mapsAmong Tryz.f4.resultTypes.toList) = true := by kernel_rfl
set_option maxRecDepth 1000000 in
theorem j4_17 : (Rows.topEveryUnitUptoRow.loops == (Tryz.f4.params.toList ++ ((Rows.OpenSpec.upto Rows.topEveryUnitSpec).bare).plain.varTypes Tryz.prog).any (Tryz.prog.loopsFrom ·)) = true := by kernel_rfl
set_option maxRecDepth 1000000 in
theorem j4_18 : (Rows.topEveryUnitUptoRow.wideKeys == (Tryz.f4.params.toList ++ ((Rows.OpenSpec.upto Rows.topEveryUnitSpec).bare).plain.varTypes Tryz.prog ++ Tryz.f4.resultTypes.toList).any (Tryz.prog.wideKeysFrom ·)) = true := by kernel_rfl
set_option maxRecDepth 1000000 in
theorem j4_19 : ((Rows.OpenSpec.upto Rows.topEveryUnitSpec).bare).vars.all (Tryz.prog.varReadable ·) = true := by kernel_rfl
set_option maxRecDepth 1000000 in
theorem j4_20 : Tryz.f4.resultTypes.all (fun t => Tryz.prog.readableRec t && decide (t < Tryz.prog.types.size)) = true := by kernel_rfl
set_option maxRecDepth 1000000 in
theorem j4_21 : (Rows.topEveryUnitUptoRow.ifacesOut == Tryz.f4.resultTypes.toList.any (Tryz.prog.ifacesRec ·)) = true := by kernel_rfl
set_option maxRecDepth 1000000 in
theorem j4_22 : (Rows.topEveryUnitUptoRow.loopsOut == Tryz.f4.resultTypes.toList.any (Tryz.prog.loopsFrom ·)) = true := by kernel_rfl
set_option maxRecDepth 1000000 in
theorem j4_23 : (Rows.topEveryUnitUptoRow.plainKeys == Tryz.prog.plainKeys) = true := by kernel_rfl
set_option maxRecDepth 1000000 in
theorem j4_24 : Rows.topEveryUnitUptoRow.shortTexts.isNone = true := by kernel_rfl
set_option maxRecDepth 1000000 in
theorem j4_29 : (Rows.topEveryUnitUptoRow.kinds == (if Rows.topEveryUnitUptoRow.domain.isEmpty then [] else Tryz.f4.params.toList.map fun t => match Tryz.prog.underlying t with | some (.int k) => some k | _ => none)) = true := by kernel_rfl
set_option maxRecDepth 1000000 in
theorem j4_30 : (Rows.topEveryUnitUptoRow.pinned == Rows.topEveryUnitUptoRow.pinnedBy) = true := by kernel_rfl
set_option maxRecDepth 1000000 in
theorem j4_31 : (Rows.topEveryUnitUptoRow.veiled == (Tryz.f4.params.toList ++ ((Rows.OpenSpec.upto Rows.topEveryUnitSpec).bare).plain.varTypes Tryz.prog ++ Tryz.f4.resultTypes.toList).any (Tryz.prog.veiledRec ·)) = true := by kernel_rfl
set_option maxRecDepth 1000000 in
theorem j4_32 : Rows.topEveryUnitUptoRow.veiledFits Tryz.prog Tryz.f4.params.toList (Tryz.f4.params.toList ++ ((Rows.OpenSpec.upto Rows.topEveryUnitSpec).bare).plain.varTypes Tryz.prog ++ Tryz.f4.resultTypes.toList) = true := by kernel_rfl
theorem j4_27 : (Rows.topEveryUnitUptoRow.lifted == Tryz.prog.liftsFinal) = true := j3_27
theorem j4_28 : (Tryz.prog.make == some Rows.topEveryUnitUptoRow.make) = true := j3_28
set_option maxRecDepth 100000 in
theorem closed4 : joinedFacts Tryz.prog 4 Tryz.f4 ((Rows.OpenSpec.upto Rows.topEveryUnitSpec).bare) Rows.topEveryUnitUptoRow = true := by
  unfold joinedFacts
  simp only [Bool.and_eq_true]
  exact ⟨⟨⟨⟨⟨⟨⟨⟨⟨⟨⟨⟨⟨⟨⟨⟨⟨⟨⟨⟨⟨⟨⟨⟨⟨⟨⟨⟨⟨⟨⟨j4_1, laid_fine⟩, maps_fine⟩, j4_4⟩, j4_5⟩, j4_6⟩, j3_7⟩, j4_8⟩, j3_9⟩, (beq_iff_eq.2 (show Rows.topEveryUnitUptoRow.inPlace = _ from inPlace4.symm))⟩, (beq_iff_eq.2 (show Rows.topEveryUnitUptoRow.unfollowed = _ from unfollowed4.symm))⟩, (beq_iff_eq.2 (show Rows.topEveryUnitUptoRow.recurses = _ from recurses4.symm))⟩, (beq_iff_eq.2 (show Rows.topEveryUnitUptoRow.named = _ from named4.symm))⟩, j4_14⟩, j4_15⟩, j4_16⟩, j4_17⟩, j4_18⟩, j4_19⟩, j4_20⟩, j4_21⟩, j4_22⟩, j4_23⟩, j4_24⟩, j3_25⟩, j3_26⟩, j4_27⟩, j4_28⟩, j4_29⟩, j4_30⟩, j4_31⟩, j4_32⟩
end Go.Abs
