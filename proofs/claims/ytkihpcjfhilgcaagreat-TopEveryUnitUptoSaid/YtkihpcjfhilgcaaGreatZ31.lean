/- The forced cells of the rows: which variables are named. Printed by genclo.py. No condition. -/
import Derived.Test.YtkihpcjfhilgcaaGreatRows
import Derived.Test.YtkihpcjfhilgcaaGreatZ26
import Derived.Test.YtkihpcjfhilgcaaGreatZ27
import Derived.Test.YtkihpcjfhilgcaaGreatZ28
import Derived.Test.YtkihpcjfhilgcaaGreatZ30
namespace Go.Abs
open Go.Proofs Go.Proofs.YtkihpcjfhilgcaaGreat
set_option maxRecDepth 1000000 in
theorem globs3 : (clo3.flatMap fun g => ((Tryz.prog.funcs[g]?).bind (·.body)).elim [] Code.globalsNamed) = [0] := by
  have h : (fun (g : Nat) => ((Tryz.prog.funcs[g]?).bind (·.body)).elim [] Code.globalsNamed) = fun (g : Nat) => (Tryz.prog.funcs[g]?).elim [] glob := by
    funext g
    cases Tryz.prog.funcs[g]? <;> rfl
  rw [h]
  exact (flat_table gl_all clo3).trans (by kernel_rfl)
set_option maxRecDepth 1000000 in
theorem named3 : Tryz.prog.varsNamed 3 = Rows.topEverySaveRow.named := by
  unfold Program.varsNamed
  rw [clo3_eq, globs3]
  kernel_rfl
set_option maxRecDepth 1000000 in
theorem globs4 : (clo4.flatMap fun g => ((Tryz.prog.funcs[g]?).bind (·.body)).elim [] Code.globalsNamed) = [0] := by
  have h : (fun (g : Nat) => ((Tryz.prog.funcs[g]?).bind (·.body)).elim [] Code.globalsNamed) = fun (g : Nat) => (Tryz.prog.funcs[g]?).elim [] glob := by
    funext g
    cases Tryz.prog.funcs[g]? <;> rfl
  rw [h]
  exact (flat_table gl_all clo4).trans (by kernel_rfl)
set_option maxRecDepth 1000000 in
theorem named4 : Tryz.prog.varsNamed 4 = Rows.topEveryUnitRow.named := by
  unfold Program.varsNamed
  rw [clo4_eq, globs4]
  kernel_rfl
end Go.Abs

/- The closed facts of the row of TopEverySave, joined. Printed by genj.py. No condition. -/
namespace Go.Abs
open Go.Proofs Go.Proofs.YtkihpcjfhilgcaaGreat
set_option maxRecDepth 100000 in
theorem closed3 : joinedFacts Tryz.prog 3 Tryz.f3 Rows.topEverySaveSpec Rows.topEverySaveRow = true := by
  unfold joinedFacts
  simp only [Bool.and_eq_true]
  exact ⟨⟨⟨⟨⟨⟨⟨⟨⟨⟨⟨⟨⟨⟨⟨⟨⟨⟨⟨⟨⟨⟨⟨⟨⟨⟨⟨⟨⟨⟨⟨j3_1, laid_fine⟩, maps_fine⟩, j3_4⟩, j3_5⟩, j3_6⟩, j3_7⟩, j3_8⟩, j3_9⟩, (beq_iff_eq.2 inPlace3.symm)⟩, (beq_iff_eq.2 unfollowed3.symm)⟩, (beq_iff_eq.2 recurses3.symm)⟩, (beq_iff_eq.2 named3.symm)⟩, j3_14⟩, j3_15⟩, j3_16⟩, j3_17⟩, j3_18⟩, j3_19⟩, j3_20⟩, j3_21⟩, j3_22⟩, j3_23⟩, j3_24⟩, j3_25⟩, j3_26⟩, j3_27⟩, j3_28⟩, j3_29⟩, j3_30⟩, j3_31⟩, j3_32⟩
end Go.Abs
