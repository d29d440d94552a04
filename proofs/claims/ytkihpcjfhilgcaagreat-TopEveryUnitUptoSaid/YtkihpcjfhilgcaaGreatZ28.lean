/- The types' table is fine. Printed by genj.py. No condition. -/
import Derived.ClosedOfChecked
import Derived.Test.YtkihpcjfhilgcaaGreatRows
namespace Go.Abs
open Go.Proofs Go.Proofs.YtkihpcjfhilgcaaGreat
theorem types_fine : ClosedOfChecked.AllSpec Tryz.prog := ClosedOfChecked.allSpec_of Tryz.checked.wellFormed (by kernel_rfl)
theorem laid_fine : laidOutB Tryz.prog = true := ClosedOfChecked.laidOutB_of types_fine (by kernel_rfl)
theorem maps_fine : mapsRowed Tryz.prog = true := ClosedOfChecked.mapsRowed_of types_fine
end Go.Abs
