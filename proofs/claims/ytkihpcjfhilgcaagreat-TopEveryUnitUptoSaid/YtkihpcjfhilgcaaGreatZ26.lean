/- Closed facts of the rows, part 1. Printed by genj.py. No condition. -/
import Derived.JoinedOf
import Derived.KernelRfl
import Derived.Test.YtkihpcjfhilgcaaGreatRows
namespace Go.Abs
open Go.Proofs Go.Proofs.YtkihpcjfhilgcaaGreat
set_option maxRecDepth 1000000 in
theorem j3_7 : (Tryz.prog.stops == []) = true := by kernel_rfl
set_option maxRecDepth 1000000 in
theorem j3_9 : (Tryz.prog.stopKnobs == []) = true := by kernel_rfl
set_option maxRecDepth 1000000 in
theorem j3_25 : Tryz.prog.stopsHeard = true := by kernel_rfl
end Go.Abs
