/- The ticks of the mission, put together: awake gives true. Printed by genseg2.py. No condition. -/
import Derived.Test.YtkihpcjfhilgcaaGreatZ33
import Derived.Test.YtkihpcjfhilgcaaGreatZ38
import Derived.Test.YtkihpcjfhilgcaaGreatZ41
import Derived.Test.YtkihpcjfhilgcaaGreatZ43
import Derived.Test.YtkihpcjfhilgcaaGreatZ45
import Derived.Test.YtkihpcjfhilgcaaGreatZ47
import Derived.Test.YtkihpcjfhilgcaaGreatZ49
namespace Go.Abs
open Go.Proofs
noncomputable def tickS : List AV → H → Option (AV × H) := fun args h => segAt sg69_305 args h (segAt sg69_4342 args h (segAt sg69_5408 args h (segAt sg69_5588 args h (segAt sg69_5768 args h (segAt sg69_5948 args h none)))))
theorem tickS_sound {args : List AV} {h h' : H} {v : AV} (he : tickS args h = some (v, h')) {ι : Io} {w : World} {us : List Value} (r : R ι h w) (hv : VRs ι args us) : Calls Tryz.prog 69 us.toArray w (Ret ι h w v h') := by
  unfold tickS at he
  exact segAt_sound sg69_305_ok (callA_sound seatX_sound T69_305_sound follows_mixed 40) r hv he fun he => segAt_sound sg69_4342_ok (callA_sound seatX_sound T69_4342_sound follows_mixed 40) r hv he fun he => segAt_sound sg69_5408_ok (callA_sound seatX_sound T69_5408_sound follows_mixed 40) r hv he fun he => segAt_sound sg69_5588_ok (callA_sound seatX_sound T69_5588_sound follows_mixed 40) r hv he fun he => segAt_sound sg69_5768_ok (callA_sound seatX_sound T69_5768_sound follows_mixed 40) r hv he fun he => segAt_sound sg69_5948_ok (callA_sound seatX_sound T69_5948_sound follows_mixed 40) r hv he nofun
noncomputable def S2 : Sums := fun f => bif Nat.beq f 69 then some tickS else bif Nat.beq f 5 then some memNewS else S1 f
theorem S2_sound : SumSound Tryz.prog S2 := by
  intro f s hs args h v h' he ι w us r hv
  unfold S2 at hs
  cases hf : Nat.beq f 69 with
  | true =>
    rw [hf] at hs; cases hs
    obtain rfl := Nat.eq_of_beq_eq_true hf
    exact tickS_sound he r hv
  | false =>
    rw [hf] at hs
    cases hg : Nat.beq f 5 with
    | true =>
      rw [hg] at hs; cases hs
      obtain rfl := Nat.eq_of_beq_eq_true hg
      exact memNewS_sound he r hv
    | false => rw [hg] at hs; exact S1_sound f s hs args h v h' he ι w us r hv
noncomputable def isTrue : Option (AV × H) → Bool
  | some (.bool b, _) => b
  | _ => false
set_option maxRecDepth 1000000 in
theorem awake_run : isTrue (callF Tryz.prog seatX S2 100000 40 (.fn 7) [] H0) = true := by kernel_rfl
theorem isTrue_spec {o : Option (AV × H)} (h : isTrue o = true) : ∃ h1, o = some (.bool true, h1) := by
  unfold isTrue at h
  split at h
  · rename_i b h1; subst h; exact ⟨h1, rfl⟩
  · cases h
end Go.Abs
