/- The ground segment in tick 6. Printed by genseg2.py. No condition. -/
import Derived.Test.YtkihpcjfhilgcaaGreatZ16
namespace Go.Abs
open Go.Proofs
noncomputable def sg101_5953 : Seg := {
  l0 := [(248, .m [] 0),
    (249, .c 3 [aI 256, aI 4194304, .map 248]),
    (254, .m [] 0),
    (255, .m [] 0),
    (256, .m [] 0),
    (257, .c 15 [.bool true, aI 1, .ptr 249 0, aI 128, aI 40, aI 10, aI 5, aI 1, .map 254, .map 255, .map 256, .snil, .snil, .bool false, .pnil]),
    (258, .m [⟨aI 10, aI 1, 0⟩] 1),
    (259, .c 4 [.bool true, aI 2, aI 220, .slice 304 0 1 1 5 false]),
    (261, .c 3 [aI 256, aI 0, .slice 5781 0 0 0 1 true]),
    (262, .c 2 [.bool true, .slice 4648 0 1 1 2 false]),
    (264, .c 6 [.bool true, .bool true, .bool true, aI 1, aI 0, .slice 4433 244 0 0 1 false]),
    (265, .c 6 [.bool true, .bool false, .bool false, aI 0, aI 0, .snil]),
    (266, .c 6 [.bool true, .bool false, .bool false, aI 0, aI 0, .snil]),
    (267, .c 15 [aI 16, .slice 302 1 0 0 1 false, aI 1, aI 0, aI 0, .bool true, aI 5, aI 0, aI 20, aI 10, aI 1, .snil, aI 5, aI 2, aI 0]),
    (268, .c 13 [.ptr 261 0, .ptr 264 0, .ptr 265 0, .ptr 266 0, .ptr 262 0, .ptr 259 0, .ptr 257 0, .bool true, aI 5, aI 5, .ptr 267 0, aI 2, .map 258]),
    (300, .c 10 [aB 16, aB 10, aB 192, aB 0, aB 0, aB 3, aB 1, aB 0, aB 1, aB 1]),
    (302, .c 1 [.slice 300 0 10 10 1 false]),
    (304, .c 5 [aI 1, aI 1, aI 0, aI 3, aI 0]),
    (4433, .c 244 [aB 8, aB 1, aB 192, aB 0, aB 0, aB 10, aB 29, aB 0, aB 0, aB 0, aB 0, aB 1, aB 1, aB 0, aB 1, aB 1, aB 0, aB 8, aB 1, aB 192, aB 1, aB 0, aB 10, aB 29, aB 0, aB 0, aB 0, aB 0, aB 1, aB 1, aB 0, aB 1, aB 2, aB 0, aB 8, aB 1, aB 192, aB 2, aB 0, aB 10, aB 29, aB 0, aB 0, aB 0, aB 0, aB 1, aB 1, aB 0, aB 1, aB 3, aB 0, aB 7, aB 255, aB 192, aB 0, aB 0, aB 186, aB 0, aB 0, aB 0, aB 0, aB 0, aB 0, aB 0, aB 0, aB 0, aB 0, aB 0, aB 0, aB 0, aB 0, aB 0, aB 0, aB 0, aB 0, aB 0, aB 0, aB 0, aB 0, aB 0, aB 0, aB 0, aB 0, aB 0, aB 0, aB 0, aB 0, aB 0, aB 0, aB 0, aB 0, aB 0, aB 0, aB 0, aB 0, aB 0, aB 0, aB 0, aB 0, aB 0, aB 0, aB 0, aB 0, aB 0, aB 0, aB 0, aB 0, aB 0, aB 0, aB 0, aB 0, aB 0, aB 0, aB 0, aB 0, aB 0, aB 0, aB 0, aB 0, aB 0, aB 0, aB 0, aB 0, aB 0, aB 0, aB 0, aB 0, aB 0, aB 0, aB 0, aB 0, aB 0, aB 0, aB 0, aB 0, aB 0, aB 0, aB 0, aB 0, aB 0, aB 0, aB 0, aB 0, aB 0, aB 0, aB 0, aB 0, aB 0, aB 0, aB 0, aB 0, aB 0, aB 0, aB 0, aB 0, aB 0, aB 0, aB 0, aB 0, aB 0, aB 0, aB 0, aB 0, aB 0, aB 0, aB 0, aB 0, aB 0, aB 0, aB 0, aB 0, aB 0, aB 0, aB 0, aB 0, aB 0, aB 0, aB 0, aB 0, aB 0, aB 0, aB 0, aB 0, aB 0, aB 0, aB 0, aB 0, aB 0, aB 0, aB 0, aB 0, aB 0, aB 0, aB 0, aB 0, aB 0, aB 0, aB 0, aB 0, aB 0, aB 0, aB 0, aB 0, aB 0, aB 0, aB 0, aB 0, aB 0, aB 0, aB 0, aB 0, aB 0, aB 0, aB 0, aB 0, aB 0, aB 0, aB 0, aB 0, aB 0, aB 0, aB 0, aB 0, aB 0, aB 0, aB 0, aB 0, aB 0, aB 0, aB 0, aB 0, aB 0, aB 0, aB 0, aB 0, aB 0, aB 0, aB 0, aB 0, aB 0, aB 0, aB 0, aB 0, aB 0]),
    (4645, .c 5 [aB 1, aB 0, aB 1, aB 1, aB 0]),
    (4648, .c 2 [aI 1, .slice 5068 0 3 3 5 false]),
    (4856, .c 5 [aB 1, aB 0, aB 1, aB 2, aB 0]),
    (5066, .c 5 [aB 1, aB 0, aB 1, aB 3, aB 0]),
    (5068, .c 15 [aI 0, aI 1, aI 0, aI 1, .slice 4645 0 5 5 1 false, aI 1, aI 1, aI 1, aI 1, .slice 4856 0 5 5 1 false, aI 2, aI 1, aI 2, aI 1, .slice 5066 0 5 5 1 false]),
    (5781, .c 0 []),
    (5947, .c 260 [aB 26, aB 207, aB 252, aB 29, aB 255, aB 23, aB 9, aB 198, aB 133, aB 243, aB 112, aB 188, aB 142, aB 44, aB 147, aB 173, aB 167, aB 183, aB 70, aB 206, aB 90, aB 151, aB 125, aB 204, aB 50, aB 162, aB 191, aB 62, aB 10, aB 16, aB 241, aB 136, aB 148, aB 205, aB 234, aB 177, aB 254, aB 144, aB 29, aB 129, aB 52, aB 26, aB 225, aB 121, aB 28, aB 89, aB 39, aB 91, aB 79, aB 110, aB 141, aB 156, aB 181, aB 46, aB 251, aB 152, aB 101, aB 69, aB 126, aB 124, aB 20, aB 33, aB 227, aB 17, aB 41, aB 155, aB 213, aB 99, aB 253, aB 32, aB 59, aB 2, aB 104, aB 53, aB 194, aB 242, aB 56, aB 178, aB 78, aB 182, aB 158, aB 221, aB 27, aB 57, aB 106, aB 93, aB 247, aB 48, aB 202, aB 138, aB 252, aB 248, aB 40, aB 67, aB 198, aB 34, aB 83, aB 55, aB 170, aB 199, aB 250, aB 64, aB 118, aB 4, aB 208, aB 107, aB 133, aB 228, aB 113, aB 100, aB 157, aB 109, aB 61, aB 186, aB 54, aB 114, aB 212, aB 187, aB 238, aB 97, aB 149, aB 21, aB 249, aB 240, aB 80, aB 135, aB 140, aB 68, aB 166, aB 111, aB 85, aB 143, aB 244, aB 128, aB 236, aB 9, aB 160, aB 215, aB 11, aB 200, aB 226, aB 201, aB 58, aB 218, aB 123, aB 116, aB 108, aB 229, aB 169, aB 119, aB 220, aB 195, aB 42, aB 43, aB 243, aB 224, aB 161, aB 15, aB 24, aB 137, aB 76, aB 222, aB 171, aB 31, aB 233, aB 1, aB 216, aB 19, aB 65, aB 174, aB 23, aB 145, aB 197, aB 146, aB 117, aB 180, aB 246, aB 232, aB 217, aB 203, aB 82, aB 239, aB 185, aB 134, aB 84, aB 87, aB 231, aB 193, aB 66, aB 30, aB 49, aB 18, aB 153, aB 189, aB 86, aB 63, aB 210, aB 3, aB 176, aB 38, aB 131, aB 92, aB 47, aB 35, aB 139, aB 36, aB 235, aB 105, aB 237, aB 209, aB 179, aB 150, aB 165, aB 223, aB 115, aB 12, aB 168, aB 175, aB 207, aB 130, aB 132, aB 60, aB 98, aB 37, aB 51, aB 122, aB 172, aB 127, aB 164, aB 7, aB 96, aB 77, aB 6, aB 184, aB 94, aB 71, aB 22, aB 73, aB 214, aB 211, aB 219, aB 163, aB 103, aB 45, aB 75, aB 190, aB 230, aB 25, aB 81, aB 95, aB 159, aB 5, aB 8, aB 120, aB 197, aB 74, aB 102, aB 244, aB 139, aB 226]),
    (5952, .c 1 [.slice 5947 0 260 260 1 false])]
  n0 := 5953
  chg := [(257, .c 15 [.bool true, aI 1, .ptr 249 0, aI 128, aI 40, aI 10, aI 6, aI 1, .map 254, .map 255, .map 256, .snil, .snil, .bool false, .pnil], 6),
    (261, .c 3 [aI 256, aI 0, .slice 5961 0 0 0 1 true], 2),
    (267, .c 15 [aI 16, .slice 302 1 0 0 1 false, aI 1, aI 0, aI 0, .bool true, aI 5, aI 0, aI 20, aI 10, aI 1, .snil, aI 6, aI 2, aI 0], 12),
    (268, .c 13 [.ptr 261 0, .ptr 264 0, .ptr 265 0, .ptr 266 0, .ptr 262 0, .ptr 259 0, .ptr 257 0, .bool true, aI 5, aI 6, .ptr 267 0, aI 2, .map 258], 9)]
  new := [(5961, .c 0 [])]
  n1 := 6044
  args := [.ptr 268 0, .slice 5952 0 1 1 1 false]
  res := .snil }
set_option maxRecDepth 1000000 in
theorem sg101_5953_ok : sg101_5953.ok Tryz.prog seatX S1 100000 40 101 = true := by kernel_rfl
end Go.Abs
