/- The vault is read, twice. Printed by genseg2.py. No condition. -/
import Derived.Test.YtkihpcjfhilgcaaGreatZ16
namespace Go.Abs
open Go.Proofs
noncomputable def sg33_2069 : Seg := {
  l0 := [(144, .w [(0, aQ 15), (1, aQ 5336), (2, aQ 2151700481), (3, aQ 2147549462), (6, aQ 1073807637), (8, aQ 1073807637), (43, aQ 8454257), (45, aQ 2147549462), (46, aQ 358221704712)]),
    (145, .c 3 [.bool true, .slice 144 0 4096 4096 1 true, aI 0]),
    (148, .c 3 [.ptr 145 0, aI 0, aI 1024])]
  n0 := 2069
  chg := []
  new := []
  n1 := 2887
  args := [.ptr 148 0]
  res := aI 1 }
set_option maxRecDepth 1000000 in
theorem sg33_2069_ok : sg33_2069.ok Tryz.prog seatX S1 100000 40 33 = true := by kernel_rfl
noncomputable def sg36_3259 : Seg := {
  l0 := [(144, .w [(0, aQ 15), (1, aQ 5336), (2, aQ 2151700481), (3, aQ 2147549462), (6, aQ 1073807637), (8, aQ 1073807637), (43, aQ 8454257), (45, aQ 2147549462), (46, aQ 358221704712)]),
    (145, .c 3 [.bool true, .slice 144 0 4096 4096 1 true, aI 0]),
    (148, .c 3 [.ptr 145 0, aI 0, aI 1024])]
  n0 := 3259
  chg := []
  new := []
  n1 := 4077
  args := [.ptr 148 0]
  res := aI 1024 }
set_option maxRecDepth 1000000 in
theorem sg36_3259_ok : sg36_3259.ok Tryz.prog seatX S1 100000 40 36 = true := by kernel_rfl
end Go.Abs
