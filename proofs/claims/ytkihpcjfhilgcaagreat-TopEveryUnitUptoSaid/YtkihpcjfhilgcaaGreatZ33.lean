/- The memory is made: 4096 words of nought. No condition. -/
import Derived.Test.YtkihpcjfhilgcaaGreatZ16
namespace Go.Abs
open Go.Proofs
noncomputable def sg5 : Seg := {
  l0 := []
  n0 := 144
  chg := []
  new := [(144, .w []), (145, .c 3 [.bool true, .slice 144 0 4096 4096 1 true, aI 0])]
  n1 := 146
  args := [aI 4096]
  res := .ptr 145 0 }
set_option maxRecDepth 1000000 in
theorem sg5_ok : sg5.ok Tryz.prog seatX S1 100000 40 5 = true := by kernel_rfl
noncomputable def memNewS : List AV → H → Option (AV × H) := fun args h => segAt sg5 args h none
theorem memNewS_sound {args : List AV} {h h' : H} {v : AV} (he : memNewS args h = some (v, h')) {ι : Io} {w : World} {us : List Value} (r : R ι h w) (hv : VRs ι args us) : Calls Tryz.prog 5 us.toArray w (Ret ι h w v h') := by
  unfold memNewS at he
  exact segAt_sound sg5_ok (callA_sound seatX_sound S1_sound follows_mixed 40) r hv he nofun
end Go.Abs
