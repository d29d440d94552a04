/- The forced cells of the rows: what is answered in place, what is not followed. Printed by genclo.py. No condition. -/
import Derived.Test.YtkihpcjfhilgcaaGreatRows
import Derived.Test.YtkihpcjfhilgcaaGreatZ29
namespace Go.Abs
open Go.Proofs Go.Proofs.YtkihpcjfhilgcaaGreat
set_option maxRecDepth 1000000 in
theorem inPlace3 : Tryz.prog.inPlace 3 = Rows.topEverySaveRow.inPlace := by
  unfold Program.inPlace
  rw [clo3_eq]
  kernel_rfl
set_option maxRecDepth 1000000 in
theorem unfollowed3 : Tryz.prog.unfollowed 3 = true := by
  unfold Program.unfollowed
  rw [clo3_eq]
  kernel_rfl
theorem recurses3 : Tryz.prog.recurses 3 = true := by
  unfold Program.recurses
  rw [unfollowed3]
  rfl
set_option maxRecDepth 1000000 in
theorem inPlace4 : Tryz.prog.inPlace 4 = Rows.topEveryUnitRow.inPlace := by
  unfold Program.inPlace
  rw [clo4_eq]
  kernel_rfl
set_option maxRecDepth 1000000 in
theorem unfollowed4 : Tryz.prog.unfollowed 4 = true := by
  unfold Program.unfollowed
  rw [clo4_eq]
  kernel_rfl
theorem recurses4 : Tryz.prog.recurses 4 = true := by
  unfold Program.recurses
  rw [unfollowed4]
  rfl
end Go.Abs

/- The variables that each function names, as a table. Printed by genclo.py. No condition. -/
namespace Go.Abs
open Go.Proofs
noncomputable def glob (fn : Func) : List Nat := fn.body.elim [] Code.globalsNamed
def gl0 : List (List Nat) := List.replicate 94 []
set_option maxRecDepth 100000 in
theorem gl0_eq : ((fl 0).take 94).map glob = gl0 := by kernel_rfl
def gl1 : List (List Nat) := List.replicate 94 []
set_option maxRecDepth 100000 in
theorem gl1_eq : ((fl 1).take 94).map glob = gl1 := by kernel_rfl
def gl2 : List (List Nat) := List.replicate 94 []
set_option maxRecDepth 100000 in
theorem gl2_eq : ((fl 2).take 94).map glob = gl2 := by kernel_rfl
def gl3 : List (List Nat) := List.replicate 94 []
set_option maxRecDepth 100000 in
theorem gl3_eq : ((fl 3).take 94).map glob = gl3 := by kernel_rfl
def gl4 : List (List Nat) := List.replicate 94 []
set_option maxRecDepth 100000 in
theorem gl4_eq : ((fl 4).take 94).map glob = gl4 := by kernel_rfl
def gl5 : List (List Nat) := List.replicate 50 [] ++ [[0]] ++ List.replicate 43 []
set_option maxRecDepth 100000 in
theorem gl5_eq : ((fl 5).take 94).map glob = gl5 := by kernel_rfl
def gl6 : List (List Nat) := List.replicate 94 []
set_option maxRecDepth 100000 in
theorem gl6_eq : ((fl 6).take 94).map glob = gl6 := by kernel_rfl
def gl7 : List (List Nat) := List.replicate 93 []
set_option maxRecDepth 100000 in
theorem gl7_eq : (fl 7).map glob = gl7 := by kernel_rfl
def glT : List (List Nat) := gl0 ++ (gl1 ++ (gl2 ++ (gl3 ++ (gl4 ++ (gl5 ++ (gl6 ++ gl7))))))
theorem gl_all : Tryz.prog.funcs.toList.map glob = glT :=
  map_parts 94 gl0_eq (map_parts 94 gl1_eq (map_parts 94 gl2_eq (map_parts 94 gl3_eq (map_parts 94 gl4_eq (map_parts 94 gl5_eq (map_parts 94 gl6_eq gl7_eq))))))
end Go.Abs
