/- The row of TopEverySave, out of its contract. No condition. -/
import Derived.Test.YtkihpcjfhilgcaaGreatZ25
import Derived.Test.YtkihpcjfhilgcaaGreatZ31
namespace Go.Proofs.YtkihpcjfhilgcaaGreat.topEverySave
open Go.ChangeShapes Go.WideShapes Go.ChangeAt Go.RowKit Go.Abs
theorem own : ownKnob Tryz.prog.godebug = none := by kernel_rfl
set_option maxRecDepth 100000 in
theorem lifted (hS3 : SumSound Tryz.prog S3) (os : Os) (started : os.Started) (H : Type) (enc : TypeId × Value → H) :
    ReturnsInHanded {} Tryz.checked os 3 .any (Rows.topEverySaveSpec.pre6 enc Tryz.prog Tryz.f3 Rows.topEverySaveRow.domain false) (Rows.topEverySaveSpec.post enc Tryz.prog Tryz.f3 false true false false) := by
  refine returnsInHanded_of_change (C := Tryz.checked) own started (by kernel_rfl) Tryz.func3
    (ChangeSpec.witness6 (enc := enc) (C := Tryz.checked) false ⟨#[], #[.agg #[.int .i64 0, .int .i64 0, .int .i64 0, .slice none 0 0, .slice none 0 0], .slice none 0 0, .int .i64 0], []⟩ 8 (by kernel_rfl) (by kernel_rfl) (by kernel_rfl) (by kernel_rfl)) ?_
  intro W base args ds gs before hval hW _ _
  exact save_contract hS3 W base args ds gs before hval hW
theorem said (hS3 : SumSound Tryz.prog S3) : Rows.TopEverySaveSaid :=
  OpenClaim.holds_of_wide 3 Tryz.f3 rfl rfl rfl rfl rfl rfl rfl ⟨rfl, rfl, rfl, rfl, rfl⟩ rfl rfl rfl rfl rfl (by kernel_rfl) Tryz.func3 closed3
    (of_decide_eq_true (by kernel_rfl)) (by unfold Func.isWrapper; first | (rw [if_pos (by decide +kernel)]; kernel_rfl) | (rw [if_neg (by decide +kernel)]; exact ⟨rfl, rfl⟩))
    (fun os started H enc _ => lifted hS3 os started H enc)
end Go.Proofs.YtkihpcjfhilgcaaGreat.topEverySave
