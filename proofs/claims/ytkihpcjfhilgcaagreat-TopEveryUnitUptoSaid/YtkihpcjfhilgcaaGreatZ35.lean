/- A save, and a refusal. Printed by genseg2.py. No condition. -/
import Derived.Test.YtkihpcjfhilgcaaGreatZ34
namespace Go.Abs
open Go.Proofs
noncomputable def T10_2069_33 : List AV → H → Option (AV × H) := fun args h => segAt sg33_2069 args h none
noncomputable def T10_2069_36 : List AV → H → Option (AV × H) := fun args h => segAt sg36_3259 args h none
noncomputable def T10_2069 : Sums := fun f => bif Nat.beq f 36 then some T10_2069_36 else bif Nat.beq f 33 then some T10_2069_33 else S1 f
theorem T10_2069_sound : SumSound Tryz.prog T10_2069 := by
  intro f s hs args h v h' he ι w us r hv
  unfold T10_2069 at hs
  simp only [Bool.cond_eq_ite] at hs
  split at hs
  · rename_i hf; cases hs; obtain rfl := Nat.eq_of_beq_eq_true hf
    unfold T10_2069_36 at he
    exact segAt_sound sg36_3259_ok (callA_sound seatX_sound S1_sound follows_mixed 40) r hv he nofun
  split at hs
  · rename_i hf; cases hs; obtain rfl := Nat.eq_of_beq_eq_true hf
    unfold T10_2069_33 at he
    exact segAt_sound sg33_2069_ok (callA_sound seatX_sound S1_sound follows_mixed 40) r hv he nofun
  exact S1_sound f s hs args h v h' he ι w us r hv
noncomputable def sg10_2069 : Seg := {
  l0 := [(144, .w [(0, aQ 15), (1, aQ 5336), (2, aQ 2151700481), (3, aQ 2147549462), (6, aQ 1073807637), (8, aQ 1073807637), (43, aQ 8454257), (45, aQ 2147549462), (46, aQ 358221704712)]),
    (145, .c 3 [.bool true, .slice 144 0 4096 4096 1 true, aI 0]),
    (148, .c 3 [.ptr 145 0, aI 0, aI 1024]),
    (2068, .c 173 [aB 2, aB 1, aB 2, aB 192, aB 2, aB 0, aB 0, aB 0, aB 0, aB 0, aB 0, aB 0, aB 0, aB 0, aB 0, aB 0, aB 1, aB 0, aB 0, aB 0, aB 0, aB 0, aB 0, aB 0, aB 1, aB 0, aB 0, aB 0, aB 0, aB 0, aB 0, aB 0, aB 0, aB 0, aB 0, aB 0, aB 0, aB 0, aB 0, aB 0, aB 0, aB 0, aB 0, aB 0, aB 0, aB 0, aB 0, aB 0, aB 0, aB 0, aB 0, aB 0, aB 0, aB 0, aB 0, aB 0, aB 0, aB 0, aB 0, aB 0, aB 0, aB 0, aB 0, aB 0, aB 0, aB 0, aB 0, aB 0, aB 0, aB 0, aB 0, aB 0, aB 0, aB 0, aB 0, aB 0, aB 0, aB 0, aB 0, aB 0, aB 0, aB 0, aB 0, aB 0, aB 0, aB 0, aB 0, aB 0, aB 0, aB 0, aB 0, aB 0, aB 0, aB 0, aB 0, aB 0, aB 0, aB 0, aB 0, aB 0, aB 0, aB 0, aB 0, aB 0, aB 0, aB 0, aB 0, aB 0, aB 0, aB 0, aB 0, aB 0, aB 0, aB 0, aB 0, aB 0, aB 0, aB 0, aB 0, aB 0, aB 0, aB 0, aB 0, aB 0, aB 0, aB 0, aB 0, aB 0, aB 0, aB 0, aB 0, aB 0, aB 0, aB 0, aB 0, aB 0, aB 0, aB 0, aB 0, aB 0, aB 0, aB 0, aB 0, aB 0, aB 0, aB 0, aB 0, aB 0, aB 0, aB 0, aB 0, aB 0, aB 0, aB 0, aB 0, aB 0, aB 0, aB 0, aB 0, aB 0, aB 0, aB 0, aB 0, aB 0, aB 0, aB 2, aB 0, aB 6, aB 0, aB 0, aB 0, aB 0, aB 2])]
  n0 := 2069
  chg := [(144, .w [(0, aQ 15), (1, aQ 5336), (2, aQ 2151700481), (3, aQ 2147549462), (6, aQ 1073807637), (8, aQ 1073807637), (43, aQ 8454257), (45, aQ 2147549462), (46, aQ 358221704712), (1024, aQ 51), (1025, aQ 5336), (1026, aQ 2151700481), (1027, aQ 2147549462), (1030, aQ 1073807637), (1032, aQ 1073807637), (1067, aQ 8454257), (1069, aQ 2147549462), (1070, aQ 293059582097)], 1024)]
  new := []
  n1 := 4077
  args := [.ptr 148 0, .slice 2068 0 173 173 1 false, .int .i64 (.negSucc 0)]
  res := aI 0 }
set_option maxRecDepth 1000000 in
theorem sg10_2069_ok : sg10_2069.ok Tryz.prog seatX T10_2069 100000 40 10 = true := by kernel_rfl
noncomputable def sg478_404 : Seg := {
  l0 := [(105, .c 12 [aI 1, aI 16, .bool false, aI 280, aI 2, aI 8, .bool false, aI 100, aI 3, aI 16, .bool true, aI 0]),
    (107, .c 16 [aI 1, aI 1, aI 1, aI 240, aI 330, aI 2, aI 11, aI 4, aI 2, aI 2, aI 1, aI 20, aI 100, aI 1, aI 12, aI 3]),
    (109, .c 6 [aI 0, .bool true, aI 1, .bool true, aI 2, .bool false]),
    (111, .c 8 [aI 1, aI 16384, aI 1, .bool true, aI 2, aI 16384, aI 2, .bool true]),
    (112, .c 67 [.bool true, aI 5, aI 16, aI 256, aI 260, aI 8, aI 4096, .slice 105 0 3 3 4 false, .slice 107 0 2 2 8 false, .slice 109 0 3 3 2 false, .slice 111 0 2 2 4 false, aI 10, aI 60, aI 30, aI 128, aI 40, aI 10, .slice 118 0 2 2 1 false, aI 1, .ptr 145 0, .ptr 148 0, .ptr 147 0, .ptr 120 0, .ptr 130 0, .ptr 143 0, aI 8, aI 0, aI 0, aI 0, aI 0, aI 0, aI 0, aI 0, aI 0, aI 0, aI 0, aI 0, aI 0, aI 0, aI 0, aI 0, .bool false, .bool false, aI 1, .snil, .int .i64 (.negSucc 0), .bool false, .bool false, .bool false, .ptr 155 0, .ptr 156 0, .ptr 197 0, .ptr 199 0, .ptr 178 0, .ptr 200 0, .ptr 201 0, .ptr 202 0, .ptr 203 0, .ptr 204 0, .ptr 196 0, .ptr 205 0, .ptr 208 0, .ptr 211 0, .ptr 215 0, .ptr 231 0, .bool false, .bool false]),
    (118, .c 2 [aI 0, aI 1]),
    (120, .c 3 [.bool true, aI 0, .slice 128 0 2 2 1 false]),
    (122, .c 7 [aI 1, aI 16384, aI 1, .bool true, .snil, aI 0, aI 0]),
    (126, .c 7 [aI 2, aI 16384, aI 2, .bool true, .snil, aI 0, aI 0]),
    (128, .c 2 [.ptr 122 0, .ptr 126 0]),
    (130, .c 1 [.slice 139 0 3 3 4 false]),
    (139, .c 12 [aI 0, aI 0, .bool false, .bool false, aI 1, aI 0, .bool false, .bool false, aI 2, aI 0, .bool false, .bool false]),
    (142, .m [] 0),
    (143, .c 13 [.bool true, aI 10, aI 60, aI 30, aI 1, aI 0, aI 1, .bool false, aI 0, .map 142, .snil, .snil, .bool false]),
    (144, .w []),
    (145, .c 3 [.bool true, .slice 144 0 4096 4096 1 true, aI 0]),
    (146, .m [] 0),
    (147, .c 3 [aI 256, aI 1048576, .map 146]),
    (148, .c 3 [.ptr 145 0, aI 0, aI 1024]),
    (155, .c 8 [aI 5, aI 16, aI 0, .bool false, .bool false, .bool false, aI 0, aI 1]),
    (156, .c 3 [.bool true, .slice 176 0 3 3 1 false, .slice 177 0 3 3 4 false]),
    (176, .c 3 [aI 1, aI 2, aI 3]),
    (177, .c 12 [aI 1, aI 16, .bool false, aI 280, aI 2, aI 8, .bool false, aI 100, aI 3, aI 16, .bool true, aI 0]),
    (178, .c 3 [.bool true, aI 0, .slice 188 0 2 2 1 false]),
    (181, .c 13 [aI 1, aI 1, aI 1, aI 240, aI 330, aI 2, aI 11, aI 4, .iface 650 (.agg [aI 240, aI 330]), .bool false, aI 0, aI 0, aI 0]),
    (186, .c 13 [aI 2, aI 2, aI 1, aI 20, aI 100, aI 1, aI 12, aI 3, .iface 650 (.agg [aI 20, aI 100]), .bool false, aI 0, aI 0, aI 0]),
    (188, .c 2 [.ptr 181 0, .ptr 186 0]),
    (193, .m [] 0),
    (194, .m [] 0),
    (195, .m [] 0),
    (196, .c 15 [.bool true, aI 2, .ptr 147 0, aI 128, aI 40, aI 10, aI 0, aI 1, .map 193, .map 194, .map 195, .snil, .snil, .bool false, .pnil]),
    (197, .c 3 [.bool true, aI 0, .snil]),
    (198, .m [] 0),
    (199, .c 8 [aI 256, .snil, aI 0, aI 0, aI 0, aI 0, aI 0, .map 198]),
    (200, .c 2 [.bool true, .snil]),
    (201, .c 21 [.bool true, aI 256, aI 0, aI 1, .bool false, .bool false, .bool false, .bool false, .bool false, .bool false, .bool false, .bool false, .bool false, .bool false, .bool false, .bool false, .bool false, .bool false, .bool false, .bool false, .snil]),
    (202, .c 3 [.bool true, aI 0, .snil]),
    (203, .c 4 [.bool true, aI 0, aI 1, .slice 233 0 1 1 3 false]),
    (204, .c 33 [.bool true, aI 0, aQ 0, aI 0, aQ 0, aI 0, aQ 0, aI 0, aQ 0, aI 0, aQ 0, aI 0, aQ 0, aI 0, aQ 0, aI 0, aQ 0, aI 0, aQ 0, aI 0, aQ 0, aI 0, aQ 0, aI 0, aQ 0, aI 0, aQ 0, aI 0, aQ 0, aI 0, aQ 0, aI 0, aQ 0]),
    (205, .c 6 [aI 244, aI 65536, aI 0, aI 0, .snil, .snil]),
    (208, .c 6 [aI 244, aI 65536, aI 0, aI 0, .snil, .snil]),
    (211, .c 6 [aI 244, aI 65536, aI 0, aI 0, .snil, .snil]),
    (215, .c 1 [.slice 230 0 3 3 5 false]),
    (230, .c 15 [aI 0, aI 0, aI 1, aI 0, aI 0, aI 1, aI 1, aI 1, aI 0, aI 0, aI 2, aI 2, aI 1, aI 0, aI 0]),
    (231, .c 5 [.bool true, aI 260, aI 1040, aI 1040, aI 0]),
    (233, .c 3 [aI 0, aI 0, aI 1])]
  n0 := 404
  chg := [(144, .w [(0, aQ 15), (1, aQ 5336), (2, aQ 2151700481), (3, aQ 2147549462), (6, aQ 1073807637), (8, aQ 1073807637), (43, aQ 8454257), (45, aQ 2147549462), (46, aQ 358221704712)], 0),
    (204, .c 33 [.bool true, aI 0, aQ 0, aI 1, aQ 1, aI 0, aQ 0, aI 0, aQ 0, aI 0, aQ 0, aI 0, aQ 0, aI 0, aQ 0, aI 0, aQ 0, aI 0, aQ 0, aI 0, aQ 0, aI 0, aQ 0, aI 0, aQ 0, aI 0, aQ 0, aI 0, aQ 0, aI 0, aQ 0, aI 0, aQ 0], 3)]
  new := []
  n1 := 1199
  args := [.ptr 112 0, .agg [aI 1, aI 1, aI 1, .snil, .snil], .bool true]
  res := aI 0 }
set_option maxRecDepth 1000000 in
theorem sg478_404_ok : sg478_404.ok Tryz.prog seatX S1 100000 40 478 = true := by kernel_rfl
end Go.Abs
