/- Tick 6. Printed by genseg2.py. No condition. -/
import Derived.Test.YtkihpcjfhilgcaaGreatZ48
namespace Go.Abs
open Go.Proofs
noncomputable def T69_5948_101 : List AV → H → Option (AV × H) := fun args h => segAt sg101_5953 args h none
noncomputable def T69_5948 : Sums := fun f => bif Nat.beq f 101 then some T69_5948_101 else S1 f
theorem T69_5948_sound : SumSound Tryz.prog T69_5948 := by
  intro f s hs args h v h' he ι w us r hv
  unfold T69_5948 at hs
  simp only [Bool.cond_eq_ite] at hs
  split at hs
  · rename_i hf; cases hs; obtain rfl := Nat.eq_of_beq_eq_true hf
    unfold T69_5948_101 at he
    exact segAt_sound sg101_5953_ok (callA_sound seatX_sound S1_sound follows_mixed 40) r hv he nofun
  exact S1_sound f s hs args h v h' he ι w us r hv
noncomputable def sg69_5948 : Seg := {
  l0 := [(11, .c 6 [.bool true, aI 5, .ptr 112 0, .ptr 268 0, .ptr 271 0, .ptr 274 0]),
    (105, .c 12 [aI 1, aI 16, .bool false, aI 280, aI 2, aI 8, .bool false, aI 100, aI 3, aI 16, .bool true, aI 0]),
    (107, .c 16 [aI 1, aI 1, aI 1, aI 240, aI 330, aI 2, aI 11, aI 4, aI 2, aI 2, aI 1, aI 20, aI 100, aI 1, aI 12, aI 3]),
    (109, .c 6 [aI 0, .bool true, aI 1, .bool true, aI 2, .bool false]),
    (111, .c 8 [aI 1, aI 16384, aI 1, .bool true, aI 2, aI 16384, aI 2, .bool true]),
    (112, .c 67 [.bool true, aI 5, aI 16, aI 256, aI 260, aI 8, aI 4096, .slice 105 0 3 3 4 false, .slice 107 0 2 2 8 false, .slice 109 0 3 3 2 false, .slice 111 0 2 2 4 false, aI 10, aI 60, aI 30, aI 128, aI 40, aI 10, .slice 118 0 2 2 1 false, aI 5, .ptr 145 0, .ptr 148 0, .ptr 147 0, .ptr 120 0, .ptr 130 0, .ptr 143 0, aI 40, aI 0, aI 3, aI 0, aI 0, aI 0, aI 0, aI 1, aI 0, aI 0, aI 0, aI 0, aI 0, aI 0, aI 7, aI 8, .bool false, .bool false, aI 1, .slice 1505 0 1 1 5 false, .int .i64 (.negSucc 0), .bool false, .bool false, .bool false, .ptr 155 0, .ptr 156 0, .ptr 197 0, .ptr 199 0, .ptr 178 0, .ptr 200 0, .ptr 201 0, .ptr 202 0, .ptr 203 0, .ptr 204 0, .ptr 196 0, .ptr 205 0, .ptr 208 0, .ptr 211 0, .ptr 215 0, .ptr 231 0, .bool false, .bool false]),
    (118, .c 2 [aI 0, aI 1]),
    (120, .c 3 [.bool true, aI 1, .slice 128 0 2 2 1 false]),
    (122, .c 7 [aI 1, aI 16384, aI 1, .bool true, .slice 1656 0 3 3 1 false, aI 51, aI 0]),
    (126, .c 7 [aI 2, aI 16384, aI 2, .bool true, .snil, aI 0, aI 0]),
    (128, .c 2 [.ptr 122 0, .ptr 126 0]),
    (130, .c 1 [.slice 139 0 3 3 4 false]),
    (139, .c 12 [aI 0, aI 0, .bool false, .bool false, aI 1, aI 0, .bool false, .bool false, aI 2, aI 0, .bool false, .bool false]),
    (142, .m [] 0),
    (143, .c 13 [.bool true, aI 10, aI 60, aI 30, aI 5, aI 5, aI 1, .bool false, aI 0, .map 142, .snil, .snil, .bool false]),
    (144, .w [(0, aQ 15), (1, aQ 5336), (2, aQ 2151700481), (3, aQ 2147549462), (6, aQ 1073807637), (8, aQ 1073807637), (43, aQ 8454257), (45, aQ 2147549462), (46, aQ 358221704712), (1024, aQ 51), (1025, aQ 5336), (1026, aQ 2151700481), (1027, aQ 2147549462), (1030, aQ 1073807637), (1032, aQ 1073807637), (1067, aQ 8454257), (1069, aQ 2147549462), (1070, aQ 293059582097)]),
    (145, .c 3 [.bool true, .slice 144 0 4096 4096 1 true, aI 0]),
    (146, .m [] 0),
    (147, .c 3 [aI 256, aI 1048576, .map 146]),
    (148, .c 3 [.ptr 145 0, aI 0, aI 1024]),
    (155, .c 8 [aI 5, aI 16, aI 0, .bool false, .bool false, .bool false, aI 0, aI 1]),
    (156, .c 3 [.bool true, .slice 176 0 3 3 1 false, .slice 177 0 3 3 4 false]),
    (176, .c 3 [aI 1, aI 2, aI 3]),
    (177, .c 12 [aI 1, aI 16, .bool false, aI 280, aI 2, aI 8, .bool false, aI 100, aI 3, aI 16, .bool true, aI 0]),
    (178, .c 3 [.bool true, aI 5, .slice 188 0 2 2 1 false]),
    (181, .c 13 [aI 1, aI 1, aI 1, aI 240, aI 330, aI 2, aI 11, aI 4, .iface 650 (.agg [aI 240, aI 330]), .bool false, aI 1, aI 1, aI 5]),
    (186, .c 13 [aI 2, aI 2, aI 1, aI 20, aI 100, aI 1, aI 12, aI 3, .iface 650 (.agg [aI 20, aI 100]), .bool false, aI 1, aI 1, aI 5]),
    (188, .c 2 [.ptr 181 0, .ptr 186 0]),
    (193, .m [] 0),
    (194, .m [] 0),
    (195, .m [] 0),
    (196, .c 15 [.bool true, aI 2, .ptr 147 0, aI 128, aI 40, aI 10, aI 5, aI 1, .map 193, .map 194, .map 195, .snil, .snil, .bool false, .pnil]),
    (197, .c 3 [.bool true, aI 5, .snil]),
    (198, .m [] 0),
    (199, .c 8 [aI 256, .snil, aI 0, aI 0, aI 0, aI 0, aI 0, .map 198]),
    (200, .c 2 [.bool true, .snil]),
    (201, .c 21 [.bool true, aI 256, aI 5, aI 1, .bool false, .bool false, .bool false, .bool false, .bool false, .bool false, .bool false, .bool false, .bool false, .bool false, .bool false, .bool false, .bool false, .bool false, .bool false, .bool false, .snil]),
    (202, .c 3 [.bool true, aI 5, .snil]),
    (203, .c 4 [.bool true, aI 0, aI 1, .slice 233 0 1 1 3 false]),
    (204, .c 33 [.bool true, aI 0, aQ 0, aI 1, aQ 1, aI 0, aQ 0, aI 0, aQ 0, aI 0, aQ 0, aI 0, aQ 0, aI 0, aQ 0, aI 0, aQ 0, aI 0, aQ 0, aI 0, aQ 0, aI 0, aQ 0, aI 0, aQ 0, aI 0, aQ 0, aI 0, aQ 0, aI 0, aQ 0, aI 0, aQ 0]),
    (205, .c 6 [aI 244, aI 65536, aI 0, aI 0, .slice 4126 0 0 0 1 true, .slice 4134 193 0 0 1 false]),
    (208, .c 6 [aI 244, aI 65536, aI 0, aI 0, .snil, .snil]),
    (211, .c 6 [aI 244, aI 65536, aI 0, aI 0, .snil, .snil]),
    (215, .c 1 [.slice 230 0 3 3 5 false]),
    (230, .c 15 [aI 0, aI 0, aI 1, aI 0, aI 1, aI 1, aI 1, aI 1, aI 0, aI 0, aI 2, aI 2, aI 1, aI 0, aI 0]),
    (231, .c 5 [.bool true, aI 260, aI 1040, aI 0, aI 5]),
    (233, .c 3 [aI 0, aI 0, aI 1]),
    (248, .m [] 0),
    (249, .c 3 [aI 256, aI 4194304, .map 248]),
    (254, .m [] 0),
    (255, .m [] 0),
    (256, .m [] 0),
    (257, .c 15 [.bool true, aI 1, .ptr 249 0, aI 128, aI 40, aI 10, aI 5, aI 1, .map 254, .map 255, .map 256, .snil, .snil, .bool false, .pnil]),
    (258, .m [⟨aI 10, aI 1, 0⟩] 1),
    (259, .c 4 [.bool true, aI 2, aI 220, .slice 304 0 1 1 5 false]),
    (261, .c 3 [aI 256, aI 0, .slice 5781 0 0 0 1 true]),
    (262, .c 2 [.bool true, .slice 4648 0 1 1 2 false]),
    (264, .c 6 [.bool true, .bool true, .bool true, aI 1, aI 0, .slice 4433 244 0 0 1 false]),
    (265, .c 6 [.bool true, .bool false, .bool false, aI 0, aI 0, .snil]),
    (266, .c 6 [.bool true, .bool false, .bool false, aI 0, aI 0, .snil]),
    (267, .c 15 [aI 16, .slice 302 1 0 0 1 false, aI 1, aI 0, aI 0, .bool true, aI 5, aI 0, aI 20, aI 10, aI 1, .snil, aI 5, aI 2, aI 0]),
    (268, .c 13 [.ptr 261 0, .ptr 264 0, .ptr 265 0, .ptr 266 0, .ptr 262 0, .ptr 259 0, .ptr 257 0, .bool true, aI 5, aI 5, .ptr 267 0, aI 2, .map 258]),
    (270, .m [] 1),
    (271, .c 8 [.bool true, aI 0, .snil, .snil, .snil, aI 5, aI 1, .map 270]),
    (273, .m [⟨aI 7, .agg [aI 5, .slice 5947 0 260 260 1 false], 7⟩] 8),
    (274, .c 8 [.bool true, aI 0, .snil, .snil, .snil, aI 5, aI 8, .map 273]),
    (300, .c 10 [aB 16, aB 10, aB 192, aB 0, aB 0, aB 3, aB 1, aB 0, aB 1, aB 1]),
    (302, .c 1 [.slice 300 0 10 10 1 false]),
    (304, .c 5 [aI 1, aI 1, aI 0, aI 3, aI 0]),
    (1346, .c 17 [aB 8, aB 1, aB 192, aB 0, aB 0, aB 10, aB 29, aB 0, aB 0, aB 0, aB 0, aB 1, aB 1, aB 0, aB 1, aB 1, aB 0]),
    (1347, .c 3 [aI 1, .slice 1346 0 17 17 1 false, .bool false]),
    (1497, .c 17 [aB 8, aB 1, aB 192, aB 1, aB 0, aB 10, aB 29, aB 0, aB 0, aB 0, aB 0, aB 1, aB 1, aB 0, aB 1, aB 2, aB 0]),
    (1498, .c 3 [aI 1, .slice 1497 0 17 17 1 false, .bool false]),
    (1505, .c 5 [aI 1, aI 1, aI 1, aI 1, aI 1]),
    (1653, .c 17 [aB 8, aB 1, aB 192, aB 2, aB 0, aB 10, aB 29, aB 0, aB 0, aB 0, aB 0, aB 1, aB 1, aB 0, aB 1, aB 3, aB 0]),
    (1654, .c 3 [aI 1, .slice 1653 0 17 17 1 false, .bool false]),
    (1656, .c 3 [.ptr 1347 0, .ptr 1498 0, .ptr 1654 0]),
    (4126, .c 0 []),
    (4134, .c 193 [aB 7, aB 255, aB 192, aB 0, aB 0, aB 186, aB 0, aB 0, aB 0, aB 0, aB 0, aB 0, aB 0, aB 0, aB 0, aB 0, aB 0, aB 0, aB 0, aB 0, aB 0, aB 0, aB 0, aB 0, aB 0, aB 0, aB 0, aB 0, aB 0, aB 0, aB 0, aB 0, aB 0, aB 0, aB 0, aB 0, aB 0, aB 0, aB 0, aB 0, aB 0, aB 0, aB 0, aB 0, aB 0, aB 0, aB 0, aB 0, aB 0, aB 0, aB 0, aB 0, aB 0, aB 0, aB 0, aB 0, aB 0, aB 0, aB 0, aB 0, aB 0, aB 0, aB 0, aB 0, aB 0, aB 0, aB 0, aB 0, aB 0, aB 0, aB 0, aB 0, aB 0, aB 0, aB 0, aB 0, aB 0, aB 0, aB 0, aB 0, aB 0, aB 0, aB 0, aB 0, aB 0, aB 0, aB 0, aB 0, aB 0, aB 0, aB 0, aB 0, aB 0, aB 0, aB 0, aB 0, aB 0, aB 0, aB 0, aB 0, aB 0, aB 0, aB 0, aB 0, aB 0, aB 0, aB 0, aB 0, aB 0, aB 0, aB 0, aB 0, aB 0, aB 0, aB 0, aB 0, aB 0, aB 0, aB 0, aB 0, aB 0, aB 0, aB 0, aB 0, aB 0, aB 0, aB 0, aB 0, aB 0, aB 0, aB 0, aB 0, aB 0, aB 0, aB 0, aB 0, aB 0, aB 0, aB 0, aB 0, aB 0, aB 0, aB 0, aB 0, aB 0, aB 0, aB 0, aB 0, aB 0, aB 0, aB 0, aB 0, aB 0, aB 0, aB 0, aB 0, aB 0, aB 0, aB 0, aB 0, aB 0, aB 0, aB 0, aB 0, aB 0, aB 0, aB 0, aB 0, aB 0, aB 0, aB 0, aB 0, aB 0, aB 0, aB 0, aB 0, aB 0, aB 0, aB 0, aB 0, aB 0, aB 0, aB 0, aB 0, aB 0, aB 0, aB 0, aB 0, aB 0, aB 0, aB 0, aB 0, aB 0]),
    (4433, .c 244 [aB 8, aB 1, aB 192, aB 0, aB 0, aB 10, aB 29, aB 0, aB 0, aB 0, aB 0, aB 1, aB 1, aB 0, aB 1, aB 1, aB 0, aB 8, aB 1, aB 192, aB 1, aB 0, aB 10, aB 29, aB 0, aB 0, aB 0, aB 0, aB 1, aB 1, aB 0, aB 1, aB 2, aB 0, aB 8, aB 1, aB 192, aB 2, aB 0, aB 10, aB 29, aB 0, aB 0, aB 0, aB 0, aB 1, aB 1, aB 0, aB 1, aB 3, aB 0, aB 7, aB 255, aB 192, aB 0, aB 0, aB 186, aB 0, aB 0, aB 0, aB 0, aB 0, aB 0, aB 0, aB 0, aB 0, aB 0, aB 0, aB 0, aB 0, aB 0, aB 0, aB 0, aB 0, aB 0, aB 0, aB 0, aB 0, aB 0, aB 0, aB 0, aB 0, aB 0, aB 0, aB 0, aB 0, aB 0, aB 0, aB 0, aB 0, aB 0, aB 0, aB 0, aB 0, aB 0, aB 0, aB 0, aB 0, aB 0, aB 0, aB 0, aB 0, aB 0, aB 0, aB 0, aB 0, aB 0, aB 0, aB 0, aB 0, aB 0, aB 0, aB 0, aB 0, aB 0, aB 0, aB 0, aB 0, aB 0, aB 0, aB 0, aB 0, aB 0, aB 0, aB 0, aB 0, aB 0, aB 0, aB 0, aB 0, aB 0, aB 0, aB 0, aB 0, aB 0, aB 0, aB 0, aB 0, aB 0, aB 0, aB 0, aB 0, aB 0, aB 0, aB 0, aB 0, aB 0, aB 0, aB 0, aB 0, aB 0, aB 0, aB 0, aB 0, aB 0, aB 0, aB 0, aB 0, aB 0, aB 0, aB 0, aB 0, aB 0, aB 0, aB 0, aB 0, aB 0, aB 0, aB 0, aB 0, aB 0, aB 0, aB 0, aB 0, aB 0, aB 0, aB 0, aB 0, aB 0, aB 0, aB 0, aB 0, aB 0, aB 0, aB 0, aB 0, aB 0, aB 0, aB 0, aB 0, aB 0, aB 0, aB 0, aB 0, aB 0, aB 0, aB 0, aB 0, aB 0, aB 0, aB 0, aB 0, aB 0, aB 0, aB 0, aB 0, aB 0, aB 0, aB 0, aB 0, aB 0, aB 0, aB 0, aB 0, aB 0, aB 0, aB 0, aB 0, aB 0, aB 0, aB 0, aB 0, aB 0, aB 0, aB 0, aB 0, aB 0, aB 0, aB 0, aB 0, aB 0, aB 0, aB 0, aB 0, aB 0, aB 0, aB 0, aB 0, aB 0, aB 0, aB 0, aB 0, aB 0, aB 0]),
    (4645, .c 5 [aB 1, aB 0, aB 1, aB 1, aB 0]),
    (4648, .c 2 [aI 1, .slice 5068 0 3 3 5 false]),
    (4856, .c 5 [aB 1, aB 0, aB 1, aB 2, aB 0]),
    (5066, .c 5 [aB 1, aB 0, aB 1, aB 3, aB 0]),
    (5068, .c 15 [aI 0, aI 1, aI 0, aI 1, .slice 4645 0 5 5 1 false, aI 1, aI 1, aI 1, aI 1, .slice 4856 0 5 5 1 false, aI 2, aI 1, aI 2, aI 1, .slice 5066 0 5 5 1 false]),
    (5781, .c 0 []),
    (5947, .c 260 [aB 26, aB 207, aB 252, aB 29, aB 255, aB 23, aB 9, aB 198, aB 133, aB 243, aB 112, aB 188, aB 142, aB 44, aB 147, aB 173, aB 167, aB 183, aB 70, aB 206, aB 90, aB 151, aB 125, aB 204, aB 50, aB 162, aB 191, aB 62, aB 10, aB 16, aB 241, aB 136, aB 148, aB 205, aB 234, aB 177, aB 254, aB 144, aB 29, aB 129, aB 52, aB 26, aB 225, aB 121, aB 28, aB 89, aB 39, aB 91, aB 79, aB 110, aB 141, aB 156, aB 181, aB 46, aB 251, aB 152, aB 101, aB 69, aB 126, aB 124, aB 20, aB 33, aB 227, aB 17, aB 41, aB 155, aB 213, aB 99, aB 253, aB 32, aB 59, aB 2, aB 104, aB 53, aB 194, aB 242, aB 56, aB 178, aB 78, aB 182, aB 158, aB 221, aB 27, aB 57, aB 106, aB 93, aB 247, aB 48, aB 202, aB 138, aB 252, aB 248, aB 40, aB 67, aB 198, aB 34, aB 83, aB 55, aB 170, aB 199, aB 250, aB 64, aB 118, aB 4, aB 208, aB 107, aB 133, aB 228, aB 113, aB 100, aB 157, aB 109, aB 61, aB 186, aB 54, aB 114, aB 212, aB 187, aB 238, aB 97, aB 149, aB 21, aB 249, aB 240, aB 80, aB 135, aB 140, aB 68, aB 166, aB 111, aB 85, aB 143, aB 244, aB 128, aB 236, aB 9, aB 160, aB 215, aB 11, aB 200, aB 226, aB 201, aB 58, aB 218, aB 123, aB 116, aB 108, aB 229, aB 169, aB 119, aB 220, aB 195, aB 42, aB 43, aB 243, aB 224, aB 161, aB 15, aB 24, aB 137, aB 76, aB 222, aB 171, aB 31, aB 233, aB 1, aB 216, aB 19, aB 65, aB 174, aB 23, aB 145, aB 197, aB 146, aB 117, aB 180, aB 246, aB 232, aB 217, aB 203, aB 82, aB 239, aB 185, aB 134, aB 84, aB 87, aB 231, aB 193, aB 66, aB 30, aB 49, aB 18, aB 153, aB 189, aB 86, aB 63, aB 210, aB 3, aB 176, aB 38, aB 131, aB 92, aB 47, aB 35, aB 139, aB 36, aB 235, aB 105, aB 237, aB 209, aB 179, aB 150, aB 165, aB 223, aB 115, aB 12, aB 168, aB 175, aB 207, aB 130, aB 132, aB 60, aB 98, aB 37, aB 51, aB 122, aB 172, aB 127, aB 164, aB 7, aB 96, aB 77, aB 6, aB 184, aB 94, aB 71, aB 22, aB 73, aB 214, aB 211, aB 219, aB 163, aB 103, aB 45, aB 75, aB 190, aB 230, aB 25, aB 81, aB 95, aB 159, aB 5, aB 8, aB 120, aB 197, aB 74, aB 102, aB 244, aB 139, aB 226])]
  n0 := 5948
  chg := [(11, .c 6 [.bool true, aI 6, .ptr 112 0, .ptr 268 0, .ptr 271 0, .ptr 274 0], 1),
    (112, .c 67 [.bool true, aI 5, aI 16, aI 256, aI 260, aI 8, aI 4096, .slice 105 0 3 3 4 false, .slice 107 0 2 2 8 false, .slice 109 0 3 3 2 false, .slice 111 0 2 2 4 false, aI 10, aI 60, aI 30, aI 128, aI 40, aI 10, .slice 118 0 2 2 1 false, aI 6, .ptr 145 0, .ptr 148 0, .ptr 147 0, .ptr 120 0, .ptr 130 0, .ptr 143 0, aI 48, aI 0, aI 3, aI 0, aI 0, aI 0, aI 0, aI 1, aI 0, aI 0, aI 0, aI 0, aI 0, aI 0, aI 8, aI 9, .bool false, .bool false, aI 1, .slice 1505 0 1 1 5 false, .int .i64 (.negSucc 0), .bool false, .bool false, .bool false, .ptr 155 0, .ptr 156 0, .ptr 197 0, .ptr 199 0, .ptr 178 0, .ptr 200 0, .ptr 201 0, .ptr 202 0, .ptr 203 0, .ptr 204 0, .ptr 196 0, .ptr 205 0, .ptr 208 0, .ptr 211 0, .ptr 215 0, .ptr 231 0, .bool false, .bool false], 18),
    (143, .c 13 [.bool true, aI 10, aI 60, aI 30, aI 6, aI 6, aI 1, .bool false, aI 0, .map 142, .snil, .snil, .bool false], 4),
    (178, .c 3 [.bool true, aI 6, .slice 188 0 2 2 1 false], 1),
    (181, .c 13 [aI 1, aI 1, aI 1, aI 240, aI 330, aI 2, aI 11, aI 4, .iface 650 (.agg [aI 240, aI 330]), .bool false, aI 1, aI 1, aI 6], 12),
    (186, .c 13 [aI 2, aI 2, aI 1, aI 20, aI 100, aI 1, aI 12, aI 3, .iface 650 (.agg [aI 20, aI 100]), .bool false, aI 1, aI 1, aI 6], 12),
    (196, .c 15 [.bool true, aI 2, .ptr 147 0, aI 128, aI 40, aI 10, aI 6, aI 1, .map 193, .map 194, .map 195, .snil, .snil, .bool false, .pnil], 6),
    (197, .c 3 [.bool true, aI 6, .snil], 1),
    (201, .c 21 [.bool true, aI 256, aI 6, aI 1, .bool false, .bool false, .bool false, .bool false, .bool false, .bool false, .bool false, .bool false, .bool false, .bool false, .bool false, .bool false, .bool false, .bool false, .bool false, .bool false, .snil], 2),
    (202, .c 3 [.bool true, aI 6, .snil], 1),
    (231, .c 5 [.bool true, aI 260, aI 1040, aI 0, aI 6], 4),
    (257, .c 15 [.bool true, aI 1, .ptr 249 0, aI 128, aI 40, aI 10, aI 6, aI 1, .map 254, .map 255, .map 256, .snil, .snil, .bool false, .pnil], 6),
    (261, .c 3 [aI 256, aI 0, .slice 5961 0 0 0 1 true], 2),
    (267, .c 15 [aI 16, .slice 302 1 0 0 1 false, aI 1, aI 0, aI 0, .bool true, aI 5, aI 0, aI 20, aI 10, aI 1, .snil, aI 6, aI 2, aI 0], 12),
    (268, .c 13 [.ptr 261 0, .ptr 264 0, .ptr 265 0, .ptr 266 0, .ptr 262 0, .ptr 259 0, .ptr 257 0, .bool true, aI 5, aI 6, .ptr 267 0, aI 2, .map 258], 9),
    (271, .c 8 [.bool true, aI 0, .snil, .snil, .snil, aI 6, aI 1, .map 270], 5),
    (273, .m [⟨aI 8, .agg [aI 6, .slice 6127 0 260 260 1 false], 8⟩] 9, 0),
    (274, .c 8 [.bool true, aI 0, .snil, .snil, .snil, aI 6, aI 9, .map 273], 5)]
  new := [(5961, .c 0 []),
    (6127, .c 260 [aB 26, aB 207, aB 252, aB 29, aB 255, aB 23, aB 6, aB 199, aB 133, aB 243, aB 112, aB 188, aB 142, aB 44, aB 147, aB 173, aB 167, aB 183, aB 70, aB 206, aB 90, aB 151, aB 125, aB 204, aB 50, aB 162, aB 191, aB 62, aB 10, aB 16, aB 241, aB 136, aB 148, aB 205, aB 234, aB 177, aB 254, aB 144, aB 29, aB 129, aB 52, aB 26, aB 225, aB 121, aB 28, aB 89, aB 39, aB 91, aB 79, aB 110, aB 141, aB 156, aB 181, aB 46, aB 251, aB 152, aB 101, aB 69, aB 126, aB 124, aB 20, aB 33, aB 227, aB 17, aB 41, aB 155, aB 213, aB 99, aB 253, aB 32, aB 59, aB 2, aB 104, aB 53, aB 194, aB 242, aB 56, aB 178, aB 78, aB 182, aB 158, aB 221, aB 27, aB 57, aB 106, aB 93, aB 247, aB 48, aB 202, aB 138, aB 252, aB 248, aB 40, aB 67, aB 198, aB 34, aB 83, aB 55, aB 170, aB 199, aB 250, aB 64, aB 118, aB 4, aB 208, aB 107, aB 133, aB 228, aB 113, aB 100, aB 157, aB 109, aB 61, aB 186, aB 54, aB 114, aB 212, aB 187, aB 238, aB 97, aB 149, aB 21, aB 249, aB 240, aB 80, aB 135, aB 140, aB 68, aB 166, aB 111, aB 85, aB 143, aB 244, aB 128, aB 236, aB 9, aB 160, aB 215, aB 11, aB 200, aB 226, aB 201, aB 58, aB 218, aB 123, aB 116, aB 108, aB 229, aB 169, aB 119, aB 220, aB 195, aB 42, aB 43, aB 243, aB 224, aB 161, aB 15, aB 24, aB 137, aB 76, aB 222, aB 171, aB 31, aB 233, aB 1, aB 216, aB 19, aB 65, aB 174, aB 23, aB 145, aB 197, aB 146, aB 117, aB 180, aB 246, aB 232, aB 217, aB 203, aB 82, aB 239, aB 185, aB 134, aB 84, aB 87, aB 231, aB 193, aB 66, aB 30, aB 49, aB 18, aB 153, aB 189, aB 86, aB 63, aB 210, aB 3, aB 176, aB 38, aB 131, aB 92, aB 47, aB 35, aB 139, aB 36, aB 235, aB 105, aB 237, aB 209, aB 179, aB 150, aB 165, aB 223, aB 115, aB 12, aB 168, aB 175, aB 207, aB 130, aB 132, aB 60, aB 98, aB 37, aB 51, aB 122, aB 172, aB 127, aB 164, aB 7, aB 96, aB 77, aB 6, aB 184, aB 94, aB 71, aB 22, aB 73, aB 214, aB 211, aB 219, aB 163, aB 103, aB 45, aB 75, aB 190, aB 230, aB 25, aB 81, aB 95, aB 159, aB 5, aB 8, aB 120, aB 197, aB 74, aB 102, aB 244, aB 85, aB 208])]
  n1 := 6128
  args := [.ptr 11 0]
  res := .tup [] }
set_option maxRecDepth 1000000 in
theorem sg69_5948_ok : sg69_5948.ok Tryz.prog seatX T69_5948 100000 40 69 = true := by kernel_rfl
end Go.Abs
