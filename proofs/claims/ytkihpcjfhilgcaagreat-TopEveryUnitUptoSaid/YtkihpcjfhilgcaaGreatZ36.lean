/- What the spacecraft receives in the first tick. Printed by genseg2.py. No condition. -/
import Derived.Test.YtkihpcjfhilgcaaGreatZ16
import Derived.Test.YtkihpcjfhilgcaaGreatZ35
namespace Go.Abs
open Go.Proofs
noncomputable def T172_356_10 : List AV → H → Option (AV × H) := fun args h => segAt sg10_2069 args h none
noncomputable def T172_356_478 : List AV → H → Option (AV × H) := fun args h => segAt sg478_404 args h none
noncomputable def T172_356 : Sums := fun f => bif Nat.beq f 478 then some T172_356_478 else bif Nat.beq f 10 then some T172_356_10 else S1 f
theorem T172_356_sound : SumSound Tryz.prog T172_356 := by
  intro f s hs args h v h' he ι w us r hv
  unfold T172_356 at hs
  simp only [Bool.cond_eq_ite] at hs
  split at hs
  · rename_i hf; cases hs; obtain rfl := Nat.eq_of_beq_eq_true hf
    unfold T172_356_478 at he
    exact segAt_sound sg478_404_ok (callA_sound seatX_sound S1_sound follows_mixed 40) r hv he nofun
  split at hs
  · rename_i hf; cases hs; obtain rfl := Nat.eq_of_beq_eq_true hf
    unfold T172_356_10 at he
    exact segAt_sound sg10_2069_ok (callA_sound seatX_sound T10_2069_sound follows_mixed 40) r hv he nofun
  exact S1_sound f s hs args h v h' he ι w us r hv
noncomputable def sg172_356 : Seg := {
  l0 := [(105, .c 12 [aI 1, aI 16, .bool false, aI 280, aI 2, aI 8, .bool false, aI 100, aI 3, aI 16, .bool true, aI 0]),
    (107, .c 16 [aI 1, aI 1, aI 1, aI 240, aI 330, aI 2, aI 11, aI 4, aI 2, aI 2, aI 1, aI 20, aI 100, aI 1, aI 12, aI 3]),
    (109, .c 6 [aI 0, .bool true, aI 1, .bool true, aI 2, .bool false]),
    (111, .c 8 [aI 1, aI 16384, aI 1, .bool true, aI 2, aI 16384, aI 2, .bool true]),
    (112, .c 67 [.bool true, aI 5, aI 16, aI 256, aI 260, aI 8, aI 4096, .slice 105 0 3 3 4 false, .slice 107 0 2 2 8 false, .slice 109 0 3 3 2 false, .slice 111 0 2 2 4 false, aI 10, aI 60, aI 30, aI 128, aI 40, aI 10, .slice 118 0 2 2 1 false, aI 1, .ptr 145 0, .ptr 148 0, .ptr 147 0, .ptr 120 0, .ptr 130 0, .ptr 143 0, aI 8, aI 0, aI 0, aI 0, aI 0, aI 0, aI 0, aI 0, aI 0, aI 0, aI 0, aI 0, aI 0, aI 0, aI 0, aI 0, .bool false, .bool false, aI 1, .snil, .int .i64 (.negSucc 0), .bool false, .bool false, .bool false, .ptr 155 0, .ptr 156 0, .ptr 197 0, .ptr 199 0, .ptr 178 0, .ptr 200 0, .ptr 201 0, .ptr 202 0, .ptr 203 0, .ptr 204 0, .ptr 196 0, .ptr 205 0, .ptr 208 0, .ptr 211 0, .ptr 215 0, .ptr 231 0, .bool false, .bool false]),
    (118, .c 2 [aI 0, aI 1]),
    (120, .c 3 [.bool true, aI 0, .slice 128 0 2 2 1 false]),
    (122, .c 7 [aI 1, aI 16384, aI 1, .bool true, .snil, aI 0, aI 0]),
    (126, .c 7 [aI 2, aI 16384, aI 2, .bool true, .snil, aI 0, aI 0]),
    (128, .c 2 [.ptr 122 0, .ptr 126 0]),
    (130, .c 1 [.slice 139 0 3 3 4 false]),
    (139, .c 12 [aI 0, aI 0, .bool false, .bool false, aI 1, aI 0, .bool false, .bool false, aI 2, aI 0, .bool false, .bool false]),
    (142, .m [] 0),
    (143, .c 13 [.bool true, aI 10, aI 60, aI 30, aI 0, aI 0, aI 0, .bool false, aI 0, .map 142, .snil, .snil, .bool false]),
    (144, .w []),
    (145, .c 3 [.bool true, .slice 144 0 4096 4096 1 true, aI 0]),
    (146, .m [] 0),
    (147, .c 3 [aI 256, aI 1048576, .map 146]),
    (148, .c 3 [.ptr 145 0, aI 0, aI 1024]),
    (155, .c 8 [aI 5, aI 16, aI 0, .bool false, .bool false, .bool false, aI 0, aI 0]),
    (156, .c 3 [.bool true, .slice 176 0 3 3 1 false, .slice 177 0 3 3 4 false]),
    (176, .c 3 [aI 1, aI 2, aI 3]),
    (177, .c 12 [aI 1, aI 16, .bool false, aI 280, aI 2, aI 8, .bool false, aI 100, aI 3, aI 16, .bool true, aI 0]),
    (178, .c 3 [.bool true, aI 0, .slice 188 0 2 2 1 false]),
    (181, .c 13 [aI 1, aI 1, aI 1, aI 240, aI 330, aI 2, aI 11, aI 4, .iface 650 (.agg [aI 240, aI 330]), .bool false, aI 0, aI 0, aI 0]),
    (186, .c 13 [aI 2, aI 2, aI 1, aI 20, aI 100, aI 1, aI 12, aI 3, .iface 650 (.agg [aI 20, aI 100]), .bool false, aI 0, aI 0, aI 0]),
    (188, .c 2 [.ptr 181 0, .ptr 186 0]),
    (193, .m [] 0),
    (194, .m [] 0),
    (195, .m [] 0),
    (196, .c 15 [.bool true, aI 2, .ptr 147 0, aI 128, aI 40, aI 10, aI 0, aI 1, .map 193, .map 194, .map 195, .snil, .snil, .bool false, .pnil]),
    (197, .c 3 [.bool true, aI 0, .snil]),
    (198, .m [] 0),
    (199, .c 8 [aI 256, .snil, aI 0, aI 0, aI 0, aI 0, aI 0, .map 198]),
    (200, .c 2 [.bool true, .snil]),
    (201, .c 21 [.bool true, aI 256, aI 0, aI 1, .bool false, .bool false, .bool false, .bool false, .bool false, .bool false, .bool false, .bool false, .bool false, .bool false, .bool false, .bool false, .bool false, .bool false, .bool false, .bool false, .snil]),
    (202, .c 3 [.bool true, aI 0, .snil]),
    (203, .c 4 [.bool true, aI 0, aI 1, .slice 233 0 1 1 3 false]),
    (204, .c 33 [.bool true, aI 0, aQ 0, aI 0, aQ 0, aI 0, aQ 0, aI 0, aQ 0, aI 0, aQ 0, aI 0, aQ 0, aI 0, aQ 0, aI 0, aQ 0, aI 0, aQ 0, aI 0, aQ 0, aI 0, aQ 0, aI 0, aQ 0, aI 0, aQ 0, aI 0, aQ 0, aI 0, aQ 0, aI 0, aQ 0]),
    (205, .c 6 [aI 244, aI 65536, aI 0, aI 0, .snil, .snil]),
    (208, .c 6 [aI 244, aI 65536, aI 0, aI 0, .snil, .snil]),
    (211, .c 6 [aI 244, aI 65536, aI 0, aI 0, .snil, .snil]),
    (215, .c 1 [.slice 230 0 3 3 5 false]),
    (230, .c 15 [aI 0, aI 0, aI 1, aI 0, aI 0, aI 1, aI 1, aI 1, aI 0, aI 0, aI 2, aI 2, aI 1, aI 0, aI 0]),
    (231, .c 5 [.bool true, aI 260, aI 1040, aI 1040, aI 0]),
    (233, .c 3 [aI 0, aI 0, aI 1]),
    (350, .c 17 [aB 0, aB 5, aB 0, aB 16, aB 0, aB 16, aB 10, aB 192, aB 0, aB 0, aB 3, aB 1, aB 0, aB 1, aB 1, aB 52, aB 126]),
    (355, .c 1 [.slice 350 0 17 17 1 false])]
  n0 := 356
  chg := [(112, .c 67 [.bool true, aI 5, aI 16, aI 256, aI 260, aI 8, aI 4096, .slice 105 0 3 3 4 false, .slice 107 0 2 2 8 false, .slice 109 0 3 3 2 false, .slice 111 0 2 2 4 false, aI 10, aI 60, aI 30, aI 128, aI 40, aI 10, .slice 118 0 2 2 1 false, aI 1, .ptr 145 0, .ptr 148 0, .ptr 147 0, .ptr 120 0, .ptr 130 0, .ptr 143 0, aI 8, aI 0, aI 3, aI 0, aI 0, aI 0, aI 0, aI 0, aI 0, aI 0, aI 0, aI 0, aI 0, aI 0, aI 0, aI 0, .bool false, .bool false, aI 1, .slice 1505 0 1 1 5 false, .int .i64 (.negSucc 0), .bool false, .bool false, .bool false, .ptr 155 0, .ptr 156 0, .ptr 197 0, .ptr 199 0, .ptr 178 0, .ptr 200 0, .ptr 201 0, .ptr 202 0, .ptr 203 0, .ptr 204 0, .ptr 196 0, .ptr 205 0, .ptr 208 0, .ptr 211 0, .ptr 215 0, .ptr 231 0, .bool false, .bool false], 27),
    (120, .c 3 [.bool true, aI 1, .slice 128 0 2 2 1 false], 1),
    (122, .c 7 [aI 1, aI 16384, aI 1, .bool true, .slice 1656 0 3 3 1 false, aI 51, aI 0], 4),
    (143, .c 13 [.bool true, aI 10, aI 60, aI 30, aI 1, aI 0, aI 1, .bool false, aI 0, .map 142, .snil, .snil, .bool false], 4),
    (144, .w [(0, aQ 15), (1, aQ 5336), (2, aQ 2151700481), (3, aQ 2147549462), (6, aQ 1073807637), (8, aQ 1073807637), (43, aQ 8454257), (45, aQ 2147549462), (46, aQ 358221704712), (1024, aQ 51), (1025, aQ 5336), (1026, aQ 2151700481), (1027, aQ 2147549462), (1030, aQ 1073807637), (1032, aQ 1073807637), (1067, aQ 8454257), (1069, aQ 2147549462), (1070, aQ 293059582097)], 0),
    (155, .c 8 [aI 5, aI 16, aI 0, .bool false, .bool false, .bool false, aI 0, aI 1], 7),
    (204, .c 33 [.bool true, aI 0, aQ 0, aI 1, aQ 1, aI 0, aQ 0, aI 0, aQ 0, aI 0, aQ 0, aI 0, aQ 0, aI 0, aQ 0, aI 0, aQ 0, aI 0, aQ 0, aI 0, aQ 0, aI 0, aQ 0, aI 0, aQ 0, aI 0, aQ 0, aI 0, aQ 0, aI 0, aQ 0, aI 0, aQ 0], 3),
    (205, .c 6 [aI 244, aI 65536, aI 51, aI 0, .slice 1650 0 3 3 1 false, .snil], 2)]
  new := [(1341, .c 17 [aB 8, aB 1, aB 192, aB 0, aB 0, aB 10, aB 29, aB 0, aB 0, aB 0, aB 0, aB 1, aB 1, aB 0, aB 1, aB 1, aB 0]),
    (1346, .c 17 [aB 8, aB 1, aB 192, aB 0, aB 0, aB 10, aB 29, aB 0, aB 0, aB 0, aB 0, aB 1, aB 1, aB 0, aB 1, aB 1, aB 0]),
    (1347, .c 3 [aI 1, .slice 1346 0 17 17 1 false, .bool false]),
    (1492, .c 17 [aB 8, aB 1, aB 192, aB 1, aB 0, aB 10, aB 29, aB 0, aB 0, aB 0, aB 0, aB 1, aB 1, aB 0, aB 1, aB 2, aB 0]),
    (1497, .c 17 [aB 8, aB 1, aB 192, aB 1, aB 0, aB 10, aB 29, aB 0, aB 0, aB 0, aB 0, aB 1, aB 1, aB 0, aB 1, aB 2, aB 0]),
    (1498, .c 3 [aI 1, .slice 1497 0 17 17 1 false, .bool false]),
    (1505, .c 5 [aI 1, aI 1, aI 1, aI 1, aI 1]),
    (1648, .c 17 [aB 8, aB 1, aB 192, aB 2, aB 0, aB 10, aB 29, aB 0, aB 0, aB 0, aB 0, aB 1, aB 1, aB 0, aB 1, aB 3, aB 0]),
    (1650, .c 3 [.slice 1341 0 17 17 1 false, .slice 1492 0 17 17 1 false, .slice 1648 0 17 17 1 false]),
    (1653, .c 17 [aB 8, aB 1, aB 192, aB 2, aB 0, aB 10, aB 29, aB 0, aB 0, aB 0, aB 0, aB 1, aB 1, aB 0, aB 1, aB 3, aB 0]),
    (1654, .c 3 [aI 1, .slice 1653 0 17 17 1 false, .bool false]),
    (1656, .c 3 [.ptr 1347 0, .ptr 1498 0, .ptr 1654 0])]
  n1 := 4077
  args := [.ptr 112 0, .slice 355 0 1 1 1 false]
  res := .tup [] }
set_option maxRecDepth 1000000 in
theorem sg172_356_ok : sg172_356.ok Tryz.prog seatX T172_356 100000 40 172 = true := by kernel_rfl
end Go.Abs

/- Four frames. Printed by genseg2.py. No condition. -/
namespace Go.Abs
open Go.Proofs
noncomputable def sg245_4138 : Seg := {
  l0 := [(4135, .c 244 [aB 8, aB 1, aB 192, aB 0, aB 0, aB 10, aB 29, aB 0, aB 0, aB 0, aB 0, aB 1, aB 1, aB 0, aB 1, aB 1, aB 0, aB 8, aB 1, aB 192, aB 1, aB 0, aB 10, aB 29, aB 0, aB 0, aB 0, aB 0, aB 1, aB 1, aB 0, aB 1, aB 2, aB 0, aB 8, aB 1, aB 192, aB 2, aB 0, aB 10, aB 29, aB 0, aB 0, aB 0, aB 0, aB 1, aB 1, aB 0, aB 1, aB 3, aB 0, aB 7, aB 255, aB 192, aB 0, aB 0, aB 186, aB 0, aB 0, aB 0, aB 0, aB 0, aB 0, aB 0, aB 0, aB 0, aB 0, aB 0, aB 0, aB 0, aB 0, aB 0, aB 0, aB 0, aB 0, aB 0, aB 0, aB 0, aB 0, aB 0, aB 0, aB 0, aB 0, aB 0, aB 0, aB 0, aB 0, aB 0, aB 0, aB 0, aB 0, aB 0, aB 0, aB 0, aB 0, aB 0, aB 0, aB 0, aB 0, aB 0, aB 0, aB 0, aB 0, aB 0, aB 0, aB 0, aB 0, aB 0, aB 0, aB 0, aB 0, aB 0, aB 0, aB 0, aB 0, aB 0, aB 0, aB 0, aB 0, aB 0, aB 0, aB 0, aB 0, aB 0, aB 0, aB 0, aB 0, aB 0, aB 0, aB 0, aB 0, aB 0, aB 0, aB 0, aB 0, aB 0, aB 0, aB 0, aB 0, aB 0, aB 0, aB 0, aB 0, aB 0, aB 0, aB 0, aB 0, aB 0, aB 0, aB 0, aB 0, aB 0, aB 0, aB 0, aB 0, aB 0, aB 0, aB 0, aB 0, aB 0, aB 0, aB 0, aB 0, aB 0, aB 0, aB 0, aB 0, aB 0, aB 0, aB 0, aB 0, aB 0, aB 0, aB 0, aB 0, aB 0, aB 0, aB 0, aB 0, aB 0, aB 0, aB 0, aB 0, aB 0, aB 0, aB 0, aB 0, aB 0, aB 0, aB 0, aB 0, aB 0, aB 0, aB 0, aB 0, aB 0, aB 0, aB 0, aB 0, aB 0, aB 0, aB 0, aB 0, aB 0, aB 0, aB 0, aB 0, aB 0, aB 0, aB 0, aB 0, aB 0, aB 0, aB 0, aB 0, aB 0, aB 0, aB 0, aB 0, aB 0, aB 0, aB 0, aB 0, aB 0, aB 0, aB 0, aB 0, aB 0, aB 0, aB 0, aB 0, aB 0, aB 0, aB 0, aB 0, aB 0, aB 0, aB 0, aB 0, aB 0, aB 0, aB 0, aB 0, aB 0])]
  n0 := 4138
  chg := []
  new := [(4174, .c 256 [aB 0, aB 81, aB 0, aB 0, aB 24, aB 0, aB 8, aB 1, aB 192, aB 0, aB 0, aB 10, aB 29, aB 0, aB 0, aB 0, aB 0, aB 1, aB 1, aB 0, aB 1, aB 1, aB 0, aB 8, aB 1, aB 192, aB 1, aB 0, aB 10, aB 29, aB 0, aB 0, aB 0, aB 0, aB 1, aB 1, aB 0, aB 1, aB 2, aB 0, aB 8, aB 1, aB 192, aB 2, aB 0, aB 10, aB 29, aB 0, aB 0, aB 0, aB 0, aB 1, aB 1, aB 0, aB 1, aB 3, aB 0, aB 7, aB 255, aB 192, aB 0, aB 0, aB 186, aB 0, aB 0, aB 0, aB 0, aB 0, aB 0, aB 0, aB 0, aB 0, aB 0, aB 0, aB 0, aB 0, aB 0, aB 0, aB 0, aB 0, aB 0, aB 0, aB 0, aB 0, aB 0, aB 0, aB 0, aB 0, aB 0, aB 0, aB 0, aB 0, aB 0, aB 0, aB 0, aB 0, aB 0, aB 0, aB 0, aB 0, aB 0, aB 0, aB 0, aB 0, aB 0, aB 0, aB 0, aB 0, aB 0, aB 0, aB 0, aB 0, aB 0, aB 0, aB 0, aB 0, aB 0, aB 0, aB 0, aB 0, aB 0, aB 0, aB 0, aB 0, aB 0, aB 0, aB 0, aB 0, aB 0, aB 0, aB 0, aB 0, aB 0, aB 0, aB 0, aB 0, aB 0, aB 0, aB 0, aB 0, aB 0, aB 0, aB 0, aB 0, aB 0, aB 0, aB 0, aB 0, aB 0, aB 0, aB 0, aB 0, aB 0, aB 0, aB 0, aB 0, aB 0, aB 0, aB 0, aB 0, aB 0, aB 0, aB 0, aB 0, aB 0, aB 0, aB 0, aB 0, aB 0, aB 0, aB 0, aB 0, aB 0, aB 0, aB 0, aB 0, aB 0, aB 0, aB 0, aB 0, aB 0, aB 0, aB 0, aB 0, aB 0, aB 0, aB 0, aB 0, aB 0, aB 0, aB 0, aB 0, aB 0, aB 0, aB 0, aB 0, aB 0, aB 0, aB 0, aB 0, aB 0, aB 0, aB 0, aB 0, aB 0, aB 0, aB 0, aB 0, aB 0, aB 0, aB 0, aB 0, aB 0, aB 0, aB 0, aB 0, aB 0, aB 0, aB 0, aB 0, aB 0, aB 0, aB 0, aB 0, aB 0, aB 0, aB 0, aB 0, aB 0, aB 0, aB 0, aB 0, aB 0, aB 0, aB 0, aB 0, aB 0, aB 0, aB 0, aB 0, aB 0, aB 0, aB 0, aB 0, aB 0, aB 0, aB 0, aB 0, aB 0, aB 0, aB 1, aB 0, aB 0, aB 1, aB 90, aB 192])]
  n1 := 4175
  args := [.agg [aI 5, aI 0, aI 0, aI 0, aI 0, .slice 4135 0 244 244 1 false, aI 0, .bool false, .bool false, .bool false, aI 0, aI 1]]
  res := .tup [.slice 4174 0 256 256 1 false, aI 0] }
set_option maxRecDepth 1000000 in
theorem sg245_4138_ok : sg245_4138.ok Tryz.prog seatX S1 100000 40 245 = true := by kernel_rfl
noncomputable def sg245_4188 : Seg := {
  l0 := [(4185, .c 244 [aB 0, aB 0, aB 0, aB 0, aB 0, aB 0, aB 0, aB 0, aB 0, aB 0, aB 0, aB 0, aB 0, aB 0, aB 0, aB 0, aB 0, aB 0, aB 0, aB 0, aB 0, aB 0, aB 0, aB 0, aB 0, aB 0, aB 0, aB 0, aB 0, aB 0, aB 0, aB 0, aB 0, aB 0, aB 0, aB 0, aB 0, aB 0, aB 0, aB 0, aB 0, aB 0, aB 0, aB 0, aB 0, aB 0, aB 0, aB 0, aB 0, aB 0, aB 0, aB 0, aB 0, aB 0, aB 0, aB 0, aB 0, aB 0, aB 0, aB 0, aB 0, aB 0, aB 0, aB 0, aB 0, aB 0, aB 0, aB 0, aB 0, aB 0, aB 0, aB 0, aB 0, aB 0, aB 0, aB 0, aB 0, aB 0, aB 0, aB 0, aB 0, aB 0, aB 0, aB 0, aB 0, aB 0, aB 0, aB 0, aB 0, aB 0, aB 0, aB 0, aB 0, aB 0, aB 0, aB 0, aB 0, aB 0, aB 0, aB 0, aB 0, aB 0, aB 0, aB 0, aB 0, aB 0, aB 0, aB 0, aB 0, aB 0, aB 0, aB 0, aB 0, aB 0, aB 0, aB 0, aB 0, aB 0, aB 0, aB 0, aB 0, aB 0, aB 0, aB 0, aB 0, aB 0, aB 0, aB 0, aB 0, aB 0, aB 0, aB 0, aB 0, aB 0, aB 0, aB 0, aB 0, aB 0, aB 0, aB 0, aB 0, aB 0, aB 0, aB 0, aB 0, aB 0, aB 0, aB 0, aB 0, aB 0, aB 0, aB 0, aB 0, aB 0, aB 0, aB 0, aB 0, aB 0, aB 0, aB 0, aB 0, aB 0, aB 0, aB 0, aB 0, aB 0, aB 0, aB 0, aB 0, aB 0, aB 0, aB 0, aB 0, aB 0, aB 0, aB 0, aB 0, aB 0, aB 0, aB 0, aB 0, aB 0, aB 0, aB 0, aB 0, aB 0, aB 0, aB 0, aB 0, aB 0, aB 0, aB 0, aB 0, aB 0, aB 0, aB 0, aB 0, aB 0, aB 0, aB 0, aB 0, aB 0, aB 0, aB 0, aB 0, aB 0, aB 0, aB 0, aB 0, aB 0, aB 0, aB 0, aB 0, aB 0, aB 0, aB 0, aB 0, aB 0, aB 0, aB 0, aB 0, aB 0, aB 0, aB 0, aB 0, aB 0, aB 0, aB 0, aB 0, aB 0, aB 0, aB 0, aB 0, aB 0, aB 0, aB 0, aB 0, aB 0, aB 0, aB 0, aB 0, aB 0, aB 0, aB 0])]
  n0 := 4188
  chg := []
  new := [(4224, .c 256 [aB 0, aB 95, aB 1, aB 0, aB 31, aB 254, aB 0, aB 0, aB 0, aB 0, aB 0, aB 0, aB 0, aB 0, aB 0, aB 0, aB 0, aB 0, aB 0, aB 0, aB 0, aB 0, aB 0, aB 0, aB 0, aB 0, aB 0, aB 0, aB 0, aB 0, aB 0, aB 0, aB 0, aB 0, aB 0, aB 0, aB 0, aB 0, aB 0, aB 0, aB 0, aB 0, aB 0, aB 0, aB 0, aB 0, aB 0, aB 0, aB 0, aB 0, aB 0, aB 0, aB 0, aB 0, aB 0, aB 0, aB 0, aB 0, aB 0, aB 0, aB 0, aB 0, aB 0, aB 0, aB 0, aB 0, aB 0, aB 0, aB 0, aB 0, aB 0, aB 0, aB 0, aB 0, aB 0, aB 0, aB 0, aB 0, aB 0, aB 0, aB 0, aB 0, aB 0, aB 0, aB 0, aB 0, aB 0, aB 0, aB 0, aB 0, aB 0, aB 0, aB 0, aB 0, aB 0, aB 0, aB 0, aB 0, aB 0, aB 0, aB 0, aB 0, aB 0, aB 0, aB 0, aB 0, aB 0, aB 0, aB 0, aB 0, aB 0, aB 0, aB 0, aB 0, aB 0, aB 0, aB 0, aB 0, aB 0, aB 0, aB 0, aB 0, aB 0, aB 0, aB 0, aB 0, aB 0, aB 0, aB 0, aB 0, aB 0, aB 0, aB 0, aB 0, aB 0, aB 0, aB 0, aB 0, aB 0, aB 0, aB 0, aB 0, aB 0, aB 0, aB 0, aB 0, aB 0, aB 0, aB 0, aB 0, aB 0, aB 0, aB 0, aB 0, aB 0, aB 0, aB 0, aB 0, aB 0, aB 0, aB 0, aB 0, aB 0, aB 0, aB 0, aB 0, aB 0, aB 0, aB 0, aB 0, aB 0, aB 0, aB 0, aB 0, aB 0, aB 0, aB 0, aB 0, aB 0, aB 0, aB 0, aB 0, aB 0, aB 0, aB 0, aB 0, aB 0, aB 0, aB 0, aB 0, aB 0, aB 0, aB 0, aB 0, aB 0, aB 0, aB 0, aB 0, aB 0, aB 0, aB 0, aB 0, aB 0, aB 0, aB 0, aB 0, aB 0, aB 0, aB 0, aB 0, aB 0, aB 0, aB 0, aB 0, aB 0, aB 0, aB 0, aB 0, aB 0, aB 0, aB 0, aB 0, aB 0, aB 0, aB 0, aB 0, aB 0, aB 0, aB 0, aB 0, aB 0, aB 0, aB 0, aB 0, aB 0, aB 0, aB 0, aB 0, aB 0, aB 0, aB 0, aB 0, aB 0, aB 0, aB 0, aB 0, aB 0, aB 0, aB 0, aB 0, aB 1, aB 0, aB 0, aB 1, aB 198, aB 176])]
  n1 := 4225
  args := [.agg [aI 5, aI 7, aI 1, aI 0, aI 2046, .slice 4185 0 244 244 1 true, aI 0, .bool false, .bool false, .bool false, aI 0, aI 1]]
  res := .tup [.slice 4224 0 256 256 1 false, aI 0] }
set_option maxRecDepth 1000000 in
theorem sg245_4188_ok : sg245_4188.ok Tryz.prog seatX S1 100000 40 245 = true := by kernel_rfl
noncomputable def sg245_4238 : Seg := {
  l0 := [(4235, .c 244 [aB 0, aB 0, aB 0, aB 0, aB 0, aB 0, aB 0, aB 0, aB 0, aB 0, aB 0, aB 0, aB 0, aB 0, aB 0, aB 0, aB 0, aB 0, aB 0, aB 0, aB 0, aB 0, aB 0, aB 0, aB 0, aB 0, aB 0, aB 0, aB 0, aB 0, aB 0, aB 0, aB 0, aB 0, aB 0, aB 0, aB 0, aB 0, aB 0, aB 0, aB 0, aB 0, aB 0, aB 0, aB 0, aB 0, aB 0, aB 0, aB 0, aB 0, aB 0, aB 0, aB 0, aB 0, aB 0, aB 0, aB 0, aB 0, aB 0, aB 0, aB 0, aB 0, aB 0, aB 0, aB 0, aB 0, aB 0, aB 0, aB 0, aB 0, aB 0, aB 0, aB 0, aB 0, aB 0, aB 0, aB 0, aB 0, aB 0, aB 0, aB 0, aB 0, aB 0, aB 0, aB 0, aB 0, aB 0, aB 0, aB 0, aB 0, aB 0, aB 0, aB 0, aB 0, aB 0, aB 0, aB 0, aB 0, aB 0, aB 0, aB 0, aB 0, aB 0, aB 0, aB 0, aB 0, aB 0, aB 0, aB 0, aB 0, aB 0, aB 0, aB 0, aB 0, aB 0, aB 0, aB 0, aB 0, aB 0, aB 0, aB 0, aB 0, aB 0, aB 0, aB 0, aB 0, aB 0, aB 0, aB 0, aB 0, aB 0, aB 0, aB 0, aB 0, aB 0, aB 0, aB 0, aB 0, aB 0, aB 0, aB 0, aB 0, aB 0, aB 0, aB 0, aB 0, aB 0, aB 0, aB 0, aB 0, aB 0, aB 0, aB 0, aB 0, aB 0, aB 0, aB 0, aB 0, aB 0, aB 0, aB 0, aB 0, aB 0, aB 0, aB 0, aB 0, aB 0, aB 0, aB 0, aB 0, aB 0, aB 0, aB 0, aB 0, aB 0, aB 0, aB 0, aB 0, aB 0, aB 0, aB 0, aB 0, aB 0, aB 0, aB 0, aB 0, aB 0, aB 0, aB 0, aB 0, aB 0, aB 0, aB 0, aB 0, aB 0, aB 0, aB 0, aB 0, aB 0, aB 0, aB 0, aB 0, aB 0, aB 0, aB 0, aB 0, aB 0, aB 0, aB 0, aB 0, aB 0, aB 0, aB 0, aB 0, aB 0, aB 0, aB 0, aB 0, aB 0, aB 0, aB 0, aB 0, aB 0, aB 0, aB 0, aB 0, aB 0, aB 0, aB 0, aB 0, aB 0, aB 0, aB 0, aB 0, aB 0, aB 0, aB 0, aB 0, aB 0, aB 0, aB 0, aB 0, aB 0, aB 0])]
  n0 := 4238
  chg := []
  new := [(4274, .c 256 [aB 0, aB 95, aB 2, aB 1, aB 31, aB 254, aB 0, aB 0, aB 0, aB 0, aB 0, aB 0, aB 0, aB 0, aB 0, aB 0, aB 0, aB 0, aB 0, aB 0, aB 0, aB 0, aB 0, aB 0, aB 0, aB 0, aB 0, aB 0, aB 0, aB 0, aB 0, aB 0, aB 0, aB 0, aB 0, aB 0, aB 0, aB 0, aB 0, aB 0, aB 0, aB 0, aB 0, aB 0, aB 0, aB 0, aB 0, aB 0, aB 0, aB 0, aB 0, aB 0, aB 0, aB 0, aB 0, aB 0, aB 0, aB 0, aB 0, aB 0, aB 0, aB 0, aB 0, aB 0, aB 0, aB 0, aB 0, aB 0, aB 0, aB 0, aB 0, aB 0, aB 0, aB 0, aB 0, aB 0, aB 0, aB 0, aB 0, aB 0, aB 0, aB 0, aB 0, aB 0, aB 0, aB 0, aB 0, aB 0, aB 0, aB 0, aB 0, aB 0, aB 0, aB 0, aB 0, aB 0, aB 0, aB 0, aB 0, aB 0, aB 0, aB 0, aB 0, aB 0, aB 0, aB 0, aB 0, aB 0, aB 0, aB 0, aB 0, aB 0, aB 0, aB 0, aB 0, aB 0, aB 0, aB 0, aB 0, aB 0, aB 0, aB 0, aB 0, aB 0, aB 0, aB 0, aB 0, aB 0, aB 0, aB 0, aB 0, aB 0, aB 0, aB 0, aB 0, aB 0, aB 0, aB 0, aB 0, aB 0, aB 0, aB 0, aB 0, aB 0, aB 0, aB 0, aB 0, aB 0, aB 0, aB 0, aB 0, aB 0, aB 0, aB 0, aB 0, aB 0, aB 0, aB 0, aB 0, aB 0, aB 0, aB 0, aB 0, aB 0, aB 0, aB 0, aB 0, aB 0, aB 0, aB 0, aB 0, aB 0, aB 0, aB 0, aB 0, aB 0, aB 0, aB 0, aB 0, aB 0, aB 0, aB 0, aB 0, aB 0, aB 0, aB 0, aB 0, aB 0, aB 0, aB 0, aB 0, aB 0, aB 0, aB 0, aB 0, aB 0, aB 0, aB 0, aB 0, aB 0, aB 0, aB 0, aB 0, aB 0, aB 0, aB 0, aB 0, aB 0, aB 0, aB 0, aB 0, aB 0, aB 0, aB 0, aB 0, aB 0, aB 0, aB 0, aB 0, aB 0, aB 0, aB 0, aB 0, aB 0, aB 0, aB 0, aB 0, aB 0, aB 0, aB 0, aB 0, aB 0, aB 0, aB 0, aB 0, aB 0, aB 0, aB 0, aB 0, aB 0, aB 0, aB 0, aB 0, aB 0, aB 0, aB 0, aB 0, aB 0, aB 0, aB 0, aB 1, aB 0, aB 0, aB 1, aB 62, aB 47])]
  n1 := 4275
  args := [.agg [aI 5, aI 7, aI 2, aI 1, aI 2046, .slice 4235 0 244 244 1 true, aI 0, .bool false, .bool false, .bool false, aI 0, aI 1]]
  res := .tup [.slice 4274 0 256 256 1 false, aI 0] }
set_option maxRecDepth 1000000 in
theorem sg245_4238_ok : sg245_4238.ok Tryz.prog seatX S1 100000 40 245 = true := by kernel_rfl
noncomputable def sg245_4288 : Seg := {
  l0 := [(4285, .c 244 [aB 0, aB 0, aB 0, aB 0, aB 0, aB 0, aB 0, aB 0, aB 0, aB 0, aB 0, aB 0, aB 0, aB 0, aB 0, aB 0, aB 0, aB 0, aB 0, aB 0, aB 0, aB 0, aB 0, aB 0, aB 0, aB 0, aB 0, aB 0, aB 0, aB 0, aB 0, aB 0, aB 0, aB 0, aB 0, aB 0, aB 0, aB 0, aB 0, aB 0, aB 0, aB 0, aB 0, aB 0, aB 0, aB 0, aB 0, aB 0, aB 0, aB 0, aB 0, aB 0, aB 0, aB 0, aB 0, aB 0, aB 0, aB 0, aB 0, aB 0, aB 0, aB 0, aB 0, aB 0, aB 0, aB 0, aB 0, aB 0, aB 0, aB 0, aB 0, aB 0, aB 0, aB 0, aB 0, aB 0, aB 0, aB 0, aB 0, aB 0, aB 0, aB 0, aB 0, aB 0, aB 0, aB 0, aB 0, aB 0, aB 0, aB 0, aB 0, aB 0, aB 0, aB 0, aB 0, aB 0, aB 0, aB 0, aB 0, aB 0, aB 0, aB 0, aB 0, aB 0, aB 0, aB 0, aB 0, aB 0, aB 0, aB 0, aB 0, aB 0, aB 0, aB 0, aB 0, aB 0, aB 0, aB 0, aB 0, aB 0, aB 0, aB 0, aB 0, aB 0, aB 0, aB 0, aB 0, aB 0, aB 0, aB 0, aB 0, aB 0, aB 0, aB 0, aB 0, aB 0, aB 0, aB 0, aB 0, aB 0, aB 0, aB 0, aB 0, aB 0, aB 0, aB 0, aB 0, aB 0, aB 0, aB 0, aB 0, aB 0, aB 0, aB 0, aB 0, aB 0, aB 0, aB 0, aB 0, aB 0, aB 0, aB 0, aB 0, aB 0, aB 0, aB 0, aB 0, aB 0, aB 0, aB 0, aB 0, aB 0, aB 0, aB 0, aB 0, aB 0, aB 0, aB 0, aB 0, aB 0, aB 0, aB 0, aB 0, aB 0, aB 0, aB 0, aB 0, aB 0, aB 0, aB 0, aB 0, aB 0, aB 0, aB 0, aB 0, aB 0, aB 0, aB 0, aB 0, aB 0, aB 0, aB 0, aB 0, aB 0, aB 0, aB 0, aB 0, aB 0, aB 0, aB 0, aB 0, aB 0, aB 0, aB 0, aB 0, aB 0, aB 0, aB 0, aB 0, aB 0, aB 0, aB 0, aB 0, aB 0, aB 0, aB 0, aB 0, aB 0, aB 0, aB 0, aB 0, aB 0, aB 0, aB 0, aB 0, aB 0, aB 0, aB 0, aB 0, aB 0, aB 0, aB 0, aB 0, aB 0])]
  n0 := 4288
  chg := []
  new := [(4324, .c 256 [aB 0, aB 95, aB 3, aB 2, aB 31, aB 254, aB 0, aB 0, aB 0, aB 0, aB 0, aB 0, aB 0, aB 0, aB 0, aB 0, aB 0, aB 0, aB 0, aB 0, aB 0, aB 0, aB 0, aB 0, aB 0, aB 0, aB 0, aB 0, aB 0, aB 0, aB 0, aB 0, aB 0, aB 0, aB 0, aB 0, aB 0, aB 0, aB 0, aB 0, aB 0, aB 0, aB 0, aB 0, aB 0, aB 0, aB 0, aB 0, aB 0, aB 0, aB 0, aB 0, aB 0, aB 0, aB 0, aB 0, aB 0, aB 0, aB 0, aB 0, aB 0, aB 0, aB 0, aB 0, aB 0, aB 0, aB 0, aB 0, aB 0, aB 0, aB 0, aB 0, aB 0, aB 0, aB 0, aB 0, aB 0, aB 0, aB 0, aB 0, aB 0, aB 0, aB 0, aB 0, aB 0, aB 0, aB 0, aB 0, aB 0, aB 0, aB 0, aB 0, aB 0, aB 0, aB 0, aB 0, aB 0, aB 0, aB 0, aB 0, aB 0, aB 0, aB 0, aB 0, aB 0, aB 0, aB 0, aB 0, aB 0, aB 0, aB 0, aB 0, aB 0, aB 0, aB 0, aB 0, aB 0, aB 0, aB 0, aB 0, aB 0, aB 0, aB 0, aB 0, aB 0, aB 0, aB 0, aB 0, aB 0, aB 0, aB 0, aB 0, aB 0, aB 0, aB 0, aB 0, aB 0, aB 0, aB 0, aB 0, aB 0, aB 0, aB 0, aB 0, aB 0, aB 0, aB 0, aB 0, aB 0, aB 0, aB 0, aB 0, aB 0, aB 0, aB 0, aB 0, aB 0, aB 0, aB 0, aB 0, aB 0, aB 0, aB 0, aB 0, aB 0, aB 0, aB 0, aB 0, aB 0, aB 0, aB 0, aB 0, aB 0, aB 0, aB 0, aB 0, aB 0, aB 0, aB 0, aB 0, aB 0, aB 0, aB 0, aB 0, aB 0, aB 0, aB 0, aB 0, aB 0, aB 0, aB 0, aB 0, aB 0, aB 0, aB 0, aB 0, aB 0, aB 0, aB 0, aB 0, aB 0, aB 0, aB 0, aB 0, aB 0, aB 0, aB 0, aB 0, aB 0, aB 0, aB 0, aB 0, aB 0, aB 0, aB 0, aB 0, aB 0, aB 0, aB 0, aB 0, aB 0, aB 0, aB 0, aB 0, aB 0, aB 0, aB 0, aB 0, aB 0, aB 0, aB 0, aB 0, aB 0, aB 0, aB 0, aB 0, aB 0, aB 0, aB 0, aB 0, aB 0, aB 0, aB 0, aB 0, aB 0, aB 0, aB 0, aB 0, aB 0, aB 0, aB 1, aB 0, aB 0, aB 1, aB 58, aB 52])]
  n1 := 4325
  args := [.agg [aI 5, aI 7, aI 3, aI 2, aI 2046, .slice 4285 0 244 244 1 true, aI 0, .bool false, .bool false, .bool false, aI 0, aI 1]]
  res := .tup [.slice 4324 0 256 256 1 false, aI 0] }
set_option maxRecDepth 1000000 in
theorem sg245_4288_ok : sg245_4288.ok Tryz.prog seatX S1 100000 40 245 = true := by kernel_rfl
end Go.Abs
