/- TopEveryUnit, its second form: for every input of a bounded bulk the law answers true, and what was handed in reads as it did. No condition beyond the bulk that the statement names. -/
import Derived.Test.YtkihpcjfhilgcaaGreatU14
import Derived.Test.YtkihpcjfhilgcaaGreatZ51
namespace Go.Abs
open Go.Proofs
theorem S4_sound : SumSound Tryz.prog S4 := by
  intro f s hs args h v h' he ι w us r hv
  unfold S4 at hs
  simp only [Bool.cond_eq_ite] at hs
  split at hs
  · rename_i hf; cases hs; obtain rfl := Nat.eq_of_beq_eq_true hf; exact masksS_sound he r hv
  split at hs
  · rename_i hf
    cases hs
    obtain rfl := Nat.eq_of_beq_eq_true hf
    unfold awU at he
    split at he
    · cases he
      obtain rfl := hv.isNil
      exact awake_calls r
    · cases he
  cases hs
end Go.Abs
namespace Go.Proofs.YtkihpcjfhilgcaaGreat.topEveryUnit
theorem proved : Rows.TopEveryUnitUptoSaid := said Go.Abs.S4_sound
end Go.Proofs.YtkihpcjfhilgcaaGreat.topEveryUnit
