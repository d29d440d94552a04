/- TopEverySave: for every input the law answers true, and what was handed in reads as it did. No condition. -/
import Derived.Test.YtkihpcjfhilgcaaGreatZ32
import Derived.Test.YtkihpcjfhilgcaaGreatZ51
namespace Go.Abs
open Go.Proofs
theorem S3_sound : SumSound Tryz.prog S3 := by
  intro f s hs args h v h' he ι w us r hv
  unfold S3 at hs
  simp only [Bool.cond_eq_ite] at hs
  split at hs
  · rename_i hf; cases hs; obtain rfl := Nat.eq_of_beq_eq_true hf; exact masksS_sound he r hv
  split at hs
  · rename_i hf
    cases hs
    obtain rfl := Nat.eq_of_beq_eq_true hf
    unfold awS at he
    split at he
    · cases he
      obtain rfl := hv.isNil
      exact awake_calls r
    · cases he
  cases hs
end Go.Abs
namespace Go.Proofs.YtkihpcjfhilgcaaGreat.topEverySave
theorem proved : Rows.TopEverySaveSaid := said Go.Abs.S3_sound
end Go.Proofs.YtkihpcjfhilgcaaGreat.topEverySave
