/- Tables read and written fast: no type parameter anywhere; printed by tools/gentab.py. No condition. -/
import Derived.Test.YtkihpcjfhilgcaaGreatZ07
namespace Go.Abs
abbrev RF := Option (Fm × H)
abbrev RE := Option (AV × H)
structure DaF where
  g : N16 (Option AV) → Option AV
  s : N16 (Option AV) → AV → (N16 (Option AV) → RF) → RF
def DaF.no : DaF := ⟨fun _ => none, fun _ _ _ => none⟩
noncomputable def lDaF : List DaF := [
    ⟨fun t => t.c0, fun t x k => N16.rec (motive := fun _ => RF) (fun _c0 c1 c2 c3 c4 c5 c6 c7 c8 c9 c10 c11 c12 c13 c14 c15 => k (N16.mk (some x) c1 c2 c3 c4 c5 c6 c7 c8 c9 c10 c11 c12 c13 c14 c15)) t⟩,
    ⟨fun t => t.c1, fun t x k => N16.rec (motive := fun _ => RF) (fun c0 _c1 c2 c3 c4 c5 c6 c7 c8 c9 c10 c11 c12 c13 c14 c15 => k (N16.mk c0 (some x) c2 c3 c4 c5 c6 c7 c8 c9 c10 c11 c12 c13 c14 c15)) t⟩,
    ⟨fun t => t.c2, fun t x k => N16.rec (motive := fun _ => RF) (fun c0 c1 _c2 c3 c4 c5 c6 c7 c8 c9 c10 c11 c12 c13 c14 c15 => k (N16.mk c0 c1 (some x) c3 c4 c5 c6 c7 c8 c9 c10 c11 c12 c13 c14 c15)) t⟩,
    ⟨fun t => t.c3, fun t x k => N16.rec (motive := fun _ => RF) (fun c0 c1 c2 _c3 c4 c5 c6 c7 c8 c9 c10 c11 c12 c13 c14 c15 => k (N16.mk c0 c1 c2 (some x) c4 c5 c6 c7 c8 c9 c10 c11 c12 c13 c14 c15)) t⟩,
    ⟨fun t => t.c4, fun t x k => N16.rec (motive := fun _ => RF) (fun c0 c1 c2 c3 _c4 c5 c6 c7 c8 c9 c10 c11 c12 c13 c14 c15 => k (N16.mk c0 c1 c2 c3 (some x) c5 c6 c7 c8 c9 c10 c11 c12 c13 c14 c15)) t⟩,
    ⟨fun t => t.c5, fun t x k => N16.rec (motive := fun _ => RF) (fun c0 c1 c2 c3 c4 _c5 c6 c7 c8 c9 c10 c11 c12 c13 c14 c15 => k (N16.mk c0 c1 c2 c3 c4 (some x) c6 c7 c8 c9 c10 c11 c12 c13 c14 c15)) t⟩,
    ⟨fun t => t.c6, fun t x k => N16.rec (motive := fun _ => RF) (fun c0 c1 c2 c3 c4 c5 _c6 c7 c8 c9 c10 c11 c12 c13 c14 c15 => k (N16.mk c0 c1 c2 c3 c4 c5 (some x) c7 c8 c9 c10 c11 c12 c13 c14 c15)) t⟩,
    ⟨fun t => t.c7, fun t x k => N16.rec (motive := fun _ => RF) (fun c0 c1 c2 c3 c4 c5 c6 _c7 c8 c9 c10 c11 c12 c13 c14 c15 => k (N16.mk c0 c1 c2 c3 c4 c5 c6 (some x) c8 c9 c10 c11 c12 c13 c14 c15)) t⟩,
    ⟨fun t => t.c8, fun t x k => N16.rec (motive := fun _ => RF) (fun c0 c1 c2 c3 c4 c5 c6 c7 _c8 c9 c10 c11 c12 c13 c14 c15 => k (N16.mk c0 c1 c2 c3 c4 c5 c6 c7 (some x) c9 c10 c11 c12 c13 c14 c15)) t⟩,
    ⟨fun t => t.c9, fun t x k => N16.rec (motive := fun _ => RF) (fun c0 c1 c2 c3 c4 c5 c6 c7 c8 _c9 c10 c11 c12 c13 c14 c15 => k (N16.mk c0 c1 c2 c3 c4 c5 c6 c7 c8 (some x) c10 c11 c12 c13 c14 c15)) t⟩,
    ⟨fun t => t.c10, fun t x k => N16.rec (motive := fun _ => RF) (fun c0 c1 c2 c3 c4 c5 c6 c7 c8 c9 _c10 c11 c12 c13 c14 c15 => k (N16.mk c0 c1 c2 c3 c4 c5 c6 c7 c8 c9 (some x) c11 c12 c13 c14 c15)) t⟩,
    ⟨fun t => t.c11, fun t x k => N16.rec (motive := fun _ => RF) (fun c0 c1 c2 c3 c4 c5 c6 c7 c8 c9 c10 _c11 c12 c13 c14 c15 => k (N16.mk c0 c1 c2 c3 c4 c5 c6 c7 c8 c9 c10 (some x) c12 c13 c14 c15)) t⟩,
    ⟨fun t => t.c12, fun t x k => N16.rec (motive := fun _ => RF) (fun c0 c1 c2 c3 c4 c5 c6 c7 c8 c9 c10 c11 _c12 c13 c14 c15 => k (N16.mk c0 c1 c2 c3 c4 c5 c6 c7 c8 c9 c10 c11 (some x) c13 c14 c15)) t⟩,
    ⟨fun t => t.c13, fun t x k => N16.rec (motive := fun _ => RF) (fun c0 c1 c2 c3 c4 c5 c6 c7 c8 c9 c10 c11 c12 _c13 c14 c15 => k (N16.mk c0 c1 c2 c3 c4 c5 c6 c7 c8 c9 c10 c11 c12 (some x) c14 c15)) t⟩,
    ⟨fun t => t.c14, fun t x k => N16.rec (motive := fun _ => RF) (fun c0 c1 c2 c3 c4 c5 c6 c7 c8 c9 c10 c11 c12 c13 _c14 c15 => k (N16.mk c0 c1 c2 c3 c4 c5 c6 c7 c8 c9 c10 c11 c12 c13 (some x) c15)) t⟩,
    ⟨fun t => t.c15, fun t x k => N16.rec (motive := fun _ => RF) (fun c0 c1 c2 c3 c4 c5 c6 c7 c8 c9 c10 c11 c12 c13 c14 _c15 => k (N16.mk c0 c1 c2 c3 c4 c5 c6 c7 c8 c9 c10 c11 c12 c13 c14 (some x))) t⟩]
noncomputable def dDaF (i : Nat) : DaF := lDaF.getD i DaF.no
theorem dDaF_g : ∀ i, i < 16 → ∀ t, (dDaF i).g t = N16.get (dg i) t
  | 0, _, _ | 1, _, _ | 2, _, _ | 3, _, _ | 4, _, _ | 5, _, _ | 6, _, _ | 7, _, _ | 8, _, _ | 9, _, _ | 10, _, _ | 11, _, _ | 12, _, _ | 13, _, _ | 14, _, _ | 15, _, _ => rfl
  | n + 16, h, _ => absurd h (by omega)
theorem dDaF_s : ∀ i, i < 16 → ∀ t x k, (dDaF i).s t x k = N16.setK (dg i) t (some x) k
  | 0, _, _, _, _ | 1, _, _, _, _ | 2, _, _, _, _ | 3, _, _, _, _ | 4, _, _, _, _ | 5, _, _, _, _ | 6, _, _, _, _ | 7, _, _, _, _ | 8, _, _, _, _ | 9, _, _, _, _ | 10, _, _, _, _ | 11, _, _, _, _ | 12, _, _, _, _ | 13, _, _, _, _ | 14, _, _, _, _ | 15, _, _, _, _ => rfl
  | n + 16, h, _, _, _ => absurd h (by omega)
structure DbF where
  g : N16 (Option (N16 (Option AV))) → Option (N16 (Option AV))
  s : N16 (Option (N16 (Option AV))) → (N16 (Option AV)) → (N16 (Option (N16 (Option AV))) → RF) → RF
def DbF.no : DbF := ⟨fun _ => none, fun _ _ _ => none⟩
noncomputable def lDbF : List DbF := [
    ⟨fun t => t.c0, fun t x k => N16.rec (motive := fun _ => RF) (fun _c0 c1 c2 c3 c4 c5 c6 c7 c8 c9 c10 c11 c12 c13 c14 c15 => k (N16.mk (some x) c1 c2 c3 c4 c5 c6 c7 c8 c9 c10 c11 c12 c13 c14 c15)) t⟩,
    ⟨fun t => t.c1, fun t x k => N16.rec (motive := fun _ => RF) (fun c0 _c1 c2 c3 c4 c5 c6 c7 c8 c9 c10 c11 c12 c13 c14 c15 => k (N16.mk c0 (some x) c2 c3 c4 c5 c6 c7 c8 c9 c10 c11 c12 c13 c14 c15)) t⟩,
    ⟨fun t => t.c2, fun t x k => N16.rec (motive := fun _ => RF) (fun c0 c1 _c2 c3 c4 c5 c6 c7 c8 c9 c10 c11 c12 c13 c14 c15 => k (N16.mk c0 c1 (some x) c3 c4 c5 c6 c7 c8 c9 c10 c11 c12 c13 c14 c15)) t⟩,
    ⟨fun t => t.c3, fun t x k => N16.rec (motive := fun _ => RF) (fun c0 c1 c2 _c3 c4 c5 c6 c7 c8 c9 c10 c11 c12 c13 c14 c15 => k (N16.mk c0 c1 c2 (some x) c4 c5 c6 c7 c8 c9 c10 c11 c12 c13 c14 c15)) t⟩,
    ⟨fun t => t.c4, fun t x k => N16.rec (motive := fun _ => RF) (fun c0 c1 c2 c3 _c4 c5 c6 c7 c8 c9 c10 c11 c12 c13 c14 c15 => k (N16.mk c0 c1 c2 c3 (some x) c5 c6 c7 c8 c9 c10 c11 c12 c13 c14 c15)) t⟩,
    ⟨fun t => t.c5, fun t x k => N16.rec (motive := fun _ => RF) (fun c0 c1 c2 c3 c4 _c5 c6 c7 c8 c9 c10 c11 c12 c13 c14 c15 => k (N16.mk c0 c1 c2 c3 c4 (some x) c6 c7 c8 c9 c10 c11 c12 c13 c14 c15)) t⟩,
    ⟨fun t => t.c6, fun t x k => N16.rec (motive := fun _ => RF) (fun c0 c1 c2 c3 c4 c5 _c6 c7 c8 c9 c10 c11 c12 c13 c14 c15 => k (N16.mk c0 c1 c2 c3 c4 c5 (some x) c7 c8 c9 c10 c11 c12 c13 c14 c15)) t⟩,
    ⟨fun t => t.c7, fun t x k => N16.rec (motive := fun _ => RF) (fun c0 c1 c2 c3 c4 c5 c6 _c7 c8 c9 c10 c11 c12 c13 c14 c15 => k (N16.mk c0 c1 c2 c3 c4 c5 c6 (some x) c8 c9 c10 c11 c12 c13 c14 c15)) t⟩,
    ⟨fun t => t.c8, fun t x k => N16.rec (motive := fun _ => RF) (fun c0 c1 c2 c3 c4 c5 c6 c7 _c8 c9 c10 c11 c12 c13 c14 c15 => k (N16.mk c0 c1 c2 c3 c4 c5 c6 c7 (some x) c9 c10 c11 c12 c13 c14 c15)) t⟩,
    ⟨fun t => t.c9, fun t x k => N16.rec (motive := fun _ => RF) (fun c0 c1 c2 c3 c4 c5 c6 c7 c8 _c9 c10 c11 c12 c13 c14 c15 => k (N16.mk c0 c1 c2 c3 c4 c5 c6 c7 c8 (some x) c10 c11 c12 c13 c14 c15)) t⟩,
    ⟨fun t => t.c10, fun t x k => N16.rec (motive := fun _ => RF) (fun c0 c1 c2 c3 c4 c5 c6 c7 c8 c9 _c10 c11 c12 c13 c14 c15 => k (N16.mk c0 c1 c2 c3 c4 c5 c6 c7 c8 c9 (some x) c11 c12 c13 c14 c15)) t⟩,
    ⟨fun t => t.c11, fun t x k => N16.rec (motive := fun _ => RF) (fun c0 c1 c2 c3 c4 c5 c6 c7 c8 c9 c10 _c11 c12 c13 c14 c15 => k (N16.mk c0 c1 c2 c3 c4 c5 c6 c7 c8 c9 c10 (some x) c12 c13 c14 c15)) t⟩,
    ⟨fun t => t.c12, fun t x k => N16.rec (motive := fun _ => RF) (fun c0 c1 c2 c3 c4 c5 c6 c7 c8 c9 c10 c11 _c12 c13 c14 c15 => k (N16.mk c0 c1 c2 c3 c4 c5 c6 c7 c8 c9 c10 c11 (some x) c13 c14 c15)) t⟩,
    ⟨fun t => t.c13, fun t x k => N16.rec (motive := fun _ => RF) (fun c0 c1 c2 c3 c4 c5 c6 c7 c8 c9 c10 c11 c12 _c13 c14 c15 => k (N16.mk c0 c1 c2 c3 c4 c5 c6 c7 c8 c9 c10 c11 c12 (some x) c14 c15)) t⟩,
    ⟨fun t => t.c14, fun t x k => N16.rec (motive := fun _ => RF) (fun c0 c1 c2 c3 c4 c5 c6 c7 c8 c9 c10 c11 c12 c13 _c14 c15 => k (N16.mk c0 c1 c2 c3 c4 c5 c6 c7 c8 c9 c10 c11 c12 c13 (some x) c15)) t⟩,
    ⟨fun t => t.c15, fun t x k => N16.rec (motive := fun _ => RF) (fun c0 c1 c2 c3 c4 c5 c6 c7 c8 c9 c10 c11 c12 c13 c14 _c15 => k (N16.mk c0 c1 c2 c3 c4 c5 c6 c7 c8 c9 c10 c11 c12 c13 c14 (some x))) t⟩]
noncomputable def dDbF (i : Nat) : DbF := lDbF.getD i DbF.no
theorem dDbF_g : ∀ i, i < 16 → ∀ t, (dDbF i).g t = N16.get (dg i) t
  | 0, _, _ | 1, _, _ | 2, _, _ | 3, _, _ | 4, _, _ | 5, _, _ | 6, _, _ | 7, _, _ | 8, _, _ | 9, _, _ | 10, _, _ | 11, _, _ | 12, _, _ | 13, _, _ | 14, _, _ | 15, _, _ => rfl
  | n + 16, h, _ => absurd h (by omega)
theorem dDbF_s : ∀ i, i < 16 → ∀ t x k, (dDbF i).s t x k = N16.setK (dg i) t (some x) k
  | 0, _, _, _, _ | 1, _, _, _, _ | 2, _, _, _, _ | 3, _, _, _, _ | 4, _, _, _, _ | 5, _, _, _, _ | 6, _, _, _, _ | 7, _, _, _, _ | 8, _, _, _, _ | 9, _, _, _, _ | 10, _, _, _, _ | 11, _, _, _, _ | 12, _, _, _, _ | 13, _, _, _, _ | 14, _, _, _, _ | 15, _, _, _, _ => rfl
  | n + 16, h, _, _, _ => absurd h (by omega)
structure DcF where
  g : N16 (Option (A2 AV)) → Option (A2 AV)
  s : N16 (Option (A2 AV)) → (A2 AV) → (N16 (Option (A2 AV)) → RF) → RF
def DcF.no : DcF := ⟨fun _ => none, fun _ _ _ => none⟩
noncomputable def lDcF : List DcF := [
    ⟨fun t => t.c0, fun t x k => N16.rec (motive := fun _ => RF) (fun _c0 c1 c2 c3 c4 c5 c6 c7 c8 c9 c10 c11 c12 c13 c14 c15 => k (N16.mk (some x) c1 c2 c3 c4 c5 c6 c7 c8 c9 c10 c11 c12 c13 c14 c15)) t⟩,
    ⟨fun t => t.c1, fun t x k => N16.rec (motive := fun _ => RF) (fun c0 _c1 c2 c3 c4 c5 c6 c7 c8 c9 c10 c11 c12 c13 c14 c15 => k (N16.mk c0 (some x) c2 c3 c4 c5 c6 c7 c8 c9 c10 c11 c12 c13 c14 c15)) t⟩,
    ⟨fun t => t.c2, fun t x k => N16.rec (motive := fun _ => RF) (fun c0 c1 _c2 c3 c4 c5 c6 c7 c8 c9 c10 c11 c12 c13 c14 c15 => k (N16.mk c0 c1 (some x) c3 c4 c5 c6 c7 c8 c9 c10 c11 c12 c13 c14 c15)) t⟩,
    ⟨fun t => t.c3, fun t x k => N16.rec (motive := fun _ => RF) (fun c0 c1 c2 _c3 c4 c5 c6 c7 c8 c9 c10 c11 c12 c13 c14 c15 => k (N16.mk c0 c1 c2 (some x) c4 c5 c6 c7 c8 c9 c10 c11 c12 c13 c14 c15)) t⟩,
    ⟨fun t => t.c4, fun t x k => N16.rec (motive := fun _ => RF) (fun c0 c1 c2 c3 _c4 c5 c6 c7 c8 c9 c10 c11 c12 c13 c14 c15 => k (N16.mk c0 c1 c2 c3 (some x) c5 c6 c7 c8 c9 c10 c11 c12 c13 c14 c15)) t⟩,
    ⟨fun t => t.c5, fun t x k => N16.rec (motive := fun _ => RF) (fun c0 c1 c2 c3 c4 _c5 c6 c7 c8 c9 c10 c11 c12 c13 c14 c15 => k (N16.mk c0 c1 c2 c3 c4 (some x) c6 c7 c8 c9 c10 c11 c12 c13 c14 c15)) t⟩,
    ⟨fun t => t.c6, fun t x k => N16.rec (motive := fun _ => RF) (fun c0 c1 c2 c3 c4 c5 _c6 c7 c8 c9 c10 c11 c12 c13 c14 c15 => k (N16.mk c0 c1 c2 c3 c4 c5 (some x) c7 c8 c9 c10 c11 c12 c13 c14 c15)) t⟩,
    ⟨fun t => t.c7, fun t x k => N16.rec (motive := fun _ => RF) (fun c0 c1 c2 c3 c4 c5 c6 _c7 c8 c9 c10 c11 c12 c13 c14 c15 => k (N16.mk c0 c1 c2 c3 c4 c5 c6 (some x) c8 c9 c10 c11 c12 c13 c14 c15)) t⟩,
    ⟨fun t => t.c8, fun t x k => N16.rec (motive := fun _ => RF) (fun c0 c1 c2 c3 c4 c5 c6 c7 _c8 c9 c10 c11 c12 c13 c14 c15 => k (N16.mk c0 c1 c2 c3 c4 c5 c6 c7 (some x) c9 c10 c11 c12 c13 c14 c15)) t⟩,
    ⟨fun t => t.c9, fun t x k => N16.rec (motive := fun _ => RF) (fun c0 c1 c2 c3 c4 c5 c6 c7 c8 _c9 c10 c11 c12 c13 c14 c15 => k (N16.mk c0 c1 c2 c3 c4 c5 c6 c7 c8 (some x) c10 c11 c12 c13 c14 c15)) t⟩,
    ⟨fun t => t.c10, fun t x k => N16.rec (motive := fun _ => RF) (fun c0 c1 c2 c3 c4 c5 c6 c7 c8 c9 _c10 c11 c12 c13 c14 c15 => k (N16.mk c0 c1 c2 c3 c4 c5 c6 c7 c8 c9 (some x) c11 c12 c13 c14 c15)) t⟩,
    ⟨fun t => t.c11, fun t x k => N16.rec (motive := fun _ => RF) (fun c0 c1 c2 c3 c4 c5 c6 c7 c8 c9 c10 _c11 c12 c13 c14 c15 => k (N16.mk c0 c1 c2 c3 c4 c5 c6 c7 c8 c9 c10 (some x) c12 c13 c14 c15)) t⟩,
    ⟨fun t => t.c12, fun t x k => N16.rec (motive := fun _ => RF) (fun c0 c1 c2 c3 c4 c5 c6 c7 c8 c9 c10 c11 _c12 c13 c14 c15 => k (N16.mk c0 c1 c2 c3 c4 c5 c6 c7 c8 c9 c10 c11 (some x) c13 c14 c15)) t⟩,
    ⟨fun t => t.c13, fun t x k => N16.rec (motive := fun _ => RF) (fun c0 c1 c2 c3 c4 c5 c6 c7 c8 c9 c10 c11 c12 _c13 c14 c15 => k (N16.mk c0 c1 c2 c3 c4 c5 c6 c7 c8 c9 c10 c11 c12 (some x) c14 c15)) t⟩,
    ⟨fun t => t.c14, fun t x k => N16.rec (motive := fun _ => RF) (fun c0 c1 c2 c3 c4 c5 c6 c7 c8 c9 c10 c11 c12 c13 _c14 c15 => k (N16.mk c0 c1 c2 c3 c4 c5 c6 c7 c8 c9 c10 c11 c12 c13 (some x) c15)) t⟩,
    ⟨fun t => t.c15, fun t x k => N16.rec (motive := fun _ => RF) (fun c0 c1 c2 c3 c4 c5 c6 c7 c8 c9 c10 c11 c12 c13 c14 _c15 => k (N16.mk c0 c1 c2 c3 c4 c5 c6 c7 c8 c9 c10 c11 c12 c13 c14 (some x))) t⟩]
noncomputable def dDcF (i : Nat) : DcF := lDcF.getD i DcF.no
theorem dDcF_g : ∀ i, i < 16 → ∀ t, (dDcF i).g t = N16.get (dg i) t
  | 0, _, _ | 1, _, _ | 2, _, _ | 3, _, _ | 4, _, _ | 5, _, _ | 6, _, _ | 7, _, _ | 8, _, _ | 9, _, _ | 10, _, _ | 11, _, _ | 12, _, _ | 13, _, _ | 14, _, _ | 15, _, _ => rfl
  | n + 16, h, _ => absurd h (by omega)
theorem dDcF_s : ∀ i, i < 16 → ∀ t x k, (dDcF i).s t x k = N16.setK (dg i) t (some x) k
  | 0, _, _, _, _ | 1, _, _, _, _ | 2, _, _, _, _ | 3, _, _, _, _ | 4, _, _, _, _ | 5, _, _, _, _ | 6, _, _, _, _ | 7, _, _, _, _ | 8, _, _, _, _ | 9, _, _, _, _ | 10, _, _, _, _ | 11, _, _, _, _ | 12, _, _, _, _ | 13, _, _, _, _ | 14, _, _, _, _ | 15, _, _, _, _ => rfl
  | n + 16, h, _, _, _ => absurd h (by omega)
structure DdF where
  g : N16 (Option (N16 (Option (A2 AV)))) → Option (N16 (Option (A2 AV)))
  s : N16 (Option (N16 (Option (A2 AV)))) → (N16 (Option (A2 AV))) → (N16 (Option (N16 (Option (A2 AV)))) → RF) → RF
def DdF.no : DdF := ⟨fun _ => none, fun _ _ _ => none⟩
noncomputable def lDdF : List DdF := [
    ⟨fun t => t.c0, fun t x k => N16.rec (motive := fun _ => RF) (fun _c0 c1 c2 c3 c4 c5 c6 c7 c8 c9 c10 c11 c12 c13 c14 c15 => k (N16.mk (some x) c1 c2 c3 c4 c5 c6 c7 c8 c9 c10 c11 c12 c13 c14 c15)) t⟩,
    ⟨fun t => t.c1, fun t x k => N16.rec (motive := fun _ => RF) (fun c0 _c1 c2 c3 c4 c5 c6 c7 c8 c9 c10 c11 c12 c13 c14 c15 => k (N16.mk c0 (some x) c2 c3 c4 c5 c6 c7 c8 c9 c10 c11 c12 c13 c14 c15)) t⟩,
    ⟨fun t => t.c2, fun t x k => N16.rec (motive := fun _ => RF) (fun c0 c1 _c2 c3 c4 c5 c6 c7 c8 c9 c10 c11 c12 c13 c14 c15 => k (N16.mk c0 c1 (some x) c3 c4 c5 c6 c7 c8 c9 c10 c11 c12 c13 c14 c15)) t⟩,
    ⟨fun t => t.c3, fun t x k => N16.rec (motive := fun _ => RF) (fun c0 c1 c2 _c3 c4 c5 c6 c7 c8 c9 c10 c11 c12 c13 c14 c15 => k (N16.mk c0 c1 c2 (some x) c4 c5 c6 c7 c8 c9 c10 c11 c12 c13 c14 c15)) t⟩,
    ⟨fun t => t.c4, fun t x k => N16.rec (motive := fun _ => RF) (fun c0 c1 c2 c3 _c4 c5 c6 c7 c8 c9 c10 c11 c12 c13 c14 c15 => k (N16.mk c0 c1 c2 c3 (some x) c5 c6 c7 c8 c9 c10 c11 c12 c13 c14 c15)) t⟩,
    ⟨fun t => t.c5, fun t x k => N16.rec (motive := fun _ => RF) (fun c0 c1 c2 c3 c4 _c5 c6 c7 c8 c9 c10 c11 c12 c13 c14 c15 => k (N16.mk c0 c1 c2 c3 c4 (some x) c6 c7 c8 c9 c10 c11 c12 c13 c14 c15)) t⟩,
    ⟨fun t => t.c6, fun t x k => N16.rec (motive := fun _ => RF) (fun c0 c1 c2 c3 c4 c5 _c6 c7 c8 c9 c10 c11 c12 c13 c14 c15 => k (N16.mk c0 c1 c2 c3 c4 c5 (some x) c7 c8 c9 c10 c11 c12 c13 c14 c15)) t⟩,
    ⟨fun t => t.c7, fun t x k => N16.rec (motive := fun _ => RF) (fun c0 c1 c2 c3 c4 c5 c6 _c7 c8 c9 c10 c11 c12 c13 c14 c15 => k (N16.mk c0 c1 c2 c3 c4 c5 c6 (some x) c8 c9 c10 c11 c12 c13 c14 c15)) t⟩,
    ⟨fun t => t.c8, fun t x k => N16.rec (motive := fun _ => RF) (fun c0 c1 c2 c3 c4 c5 c6 c7 _c8 c9 c10 c11 c12 c13 c14 c15 => k (N16.mk c0 c1 c2 c3 c4 c5 c6 c7 (some x) c9 c10 c11 c12 c13 c14 c15)) t⟩,
    ⟨fun t => t.c9, fun t x k => N16.rec (motive := fun _ => RF) (fun c0 c1 c2 c3 c4 c5 c6 c7 c8 _c9 c10 c11 c12 c13 c14 c15 => k (N16.mk c0 c1 c2 c3 c4 c5 c6 c7 c8 (some x) c10 c11 c12 c13 c14 c15)) t⟩,
    ⟨fun t => t.c10, fun t x k => N16.rec (motive := fun _ => RF) (fun c0 c1 c2 c3 c4 c5 c6 c7 c8 c9 _c10 c11 c12 c13 c14 c15 => k (N16.mk c0 c1 c2 c3 c4 c5 c6 c7 c8 c9 (some x) c11 c12 c13 c14 c15)) t⟩,
    ⟨fun t => t.c11, fun t x k => N16.rec (motive := fun _ => RF) (fun c0 c1 c2 c3 c4 c5 c6 c7 c8 c9 c10 _c11 c12 c13 c14 c15 => k (N16.mk c0 c1 c2 c3 c4 c5 c6 c7 c8 c9 c10 (some x) c12 c13 c14 c15)) t⟩,
    ⟨fun t => t.c12, fun t x k => N16.rec (motive := fun _ => RF) (fun c0 c1 c2 c3 c4 c5 c6 c7 c8 c9 c10 c11 _c12 c13 c14 c15 => k (N16.mk c0 c1 c2 c3 c4 c5 c6 c7 c8 c9 c10 c11 (some x) c13 c14 c15)) t⟩,
    ⟨fun t => t.c13, fun t x k => N16.rec (motive := fun _ => RF) (fun c0 c1 c2 c3 c4 c5 c6 c7 c8 c9 c10 c11 c12 _c13 c14 c15 => k (N16.mk c0 c1 c2 c3 c4 c5 c6 c7 c8 c9 c10 c11 c12 (some x) c14 c15)) t⟩,
    ⟨fun t => t.c14, fun t x k => N16.rec (motive := fun _ => RF) (fun c0 c1 c2 c3 c4 c5 c6 c7 c8 c9 c10 c11 c12 c13 _c14 c15 => k (N16.mk c0 c1 c2 c3 c4 c5 c6 c7 c8 c9 c10 c11 c12 c13 (some x) c15)) t⟩,
    ⟨fun t => t.c15, fun t x k => N16.rec (motive := fun _ => RF) (fun c0 c1 c2 c3 c4 c5 c6 c7 c8 c9 c10 c11 c12 c13 c14 _c15 => k (N16.mk c0 c1 c2 c3 c4 c5 c6 c7 c8 c9 c10 c11 c12 c13 c14 (some x))) t⟩]
noncomputable def dDdF (i : Nat) : DdF := lDdF.getD i DdF.no
theorem dDdF_g : ∀ i, i < 16 → ∀ t, (dDdF i).g t = N16.get (dg i) t
  | 0, _, _ | 1, _, _ | 2, _, _ | 3, _, _ | 4, _, _ | 5, _, _ | 6, _, _ | 7, _, _ | 8, _, _ | 9, _, _ | 10, _, _ | 11, _, _ | 12, _, _ | 13, _, _ | 14, _, _ | 15, _, _ => rfl
  | n + 16, h, _ => absurd h (by omega)
theorem dDdF_s : ∀ i, i < 16 → ∀ t x k, (dDdF i).s t x k = N16.setK (dg i) t (some x) k
  | 0, _, _, _, _ | 1, _, _, _, _ | 2, _, _, _, _ | 3, _, _, _, _ | 4, _, _, _, _ | 5, _, _, _, _ | 6, _, _, _, _ | 7, _, _, _, _ | 8, _, _, _, _ | 9, _, _, _, _ | 10, _, _, _, _ | 11, _, _, _, _ | 12, _, _, _, _ | 13, _, _, _, _ | 14, _, _, _, _ | 15, _, _, _, _ => rfl
  | n + 16, h, _, _, _ => absurd h (by omega)
structure PaF where
  g : (A2 AV) → Option AV
  s : (A2 AV) → AV → ((A2 AV) → RF) → RF
noncomputable def ePaF : (N16 (Option AV)) := .mk none none none none none none none none none none none none none none none none
noncomputable def pPaF (a b : Nat) : PaF :=
  ⟨fun t => Option.rec (motive := fun _ => Option AV) none (dDaF b).g ((dDbF a).g t),
   fun t x k => Option.rec (motive := fun _ => RF) ((dDaF b).s ePaF x fun s => (dDbF a).s t s k) (fun s => (dDaF b).s s x fun s => (dDbF a).s t s k) ((dDbF a).g t)⟩
theorem pPaF_g (a b : Nat) (ha : a < 16) (hb : b < 16) (t : (A2 AV)) : (pPaF a b).g t = A2.get (dg a) (dg b) t := by
  show Option.rec (motive := fun _ => Option AV) none (dDaF b).g ((dDbF a).g t) = _
  rw [dDbF_g a ha]
  unfold A2.get
  cases N16.get (dg a) t with
  | none => rfl
  | some s => exact dDaF_g b hb s
theorem pPaF_s (a b : Nat) (ha : a < 16) (hb : b < 16) (t : (A2 AV)) (x : AV) (k : (A2 AV) → RF) : (pPaF a b).s t x k = k (A2.set (dg a) (dg b) t x) := by
  rw [← A2.setK_eq (dg a) (dg b) t x k]
  show Option.rec (motive := fun _ => RF) ((dDaF b).s ePaF x fun s => (dDbF a).s t s k) (fun s => (dDaF b).s s x fun s => (dDbF a).s t s k) ((dDbF a).g t) = _
  rw [dDbF_g a ha]
  unfold A2.setK
  cases N16.get (dg a) t with
  | none =>
    show (dDaF b).s ePaF x _ = N16.setK _ _ _ _
    rw [dDaF_s b hb]
    congr 1
    funext s
    exact dDbF_s a ha _ _ _
  | some s =>
    show (dDaF b).s s x _ = N16.setK _ _ _ _
    rw [dDaF_s b hb]
    congr 1
    funext s
    exact dDbF_s a ha _ _ _
structure PbF where
  g : (A4 AV) → Option (A2 AV)
  s : (A4 AV) → (A2 AV) → ((A4 AV) → RF) → RF
noncomputable def ePbF : (N16 (Option (A2 AV))) := .mk none none none none none none none none none none none none none none none none
noncomputable def pPbF (a b : Nat) : PbF :=
  ⟨fun t => Option.rec (motive := fun _ => Option (A2 AV)) none (dDcF b).g ((dDdF a).g t),
   fun t x k => Option.rec (motive := fun _ => RF) ((dDcF b).s ePbF x fun s => (dDdF a).s t s k) (fun s => (dDcF b).s s x fun s => (dDdF a).s t s k) ((dDdF a).g t)⟩
theorem pPbF_g (a b : Nat) (ha : a < 16) (hb : b < 16) (t : (A4 AV)) : (pPbF a b).g t = A2.get (dg a) (dg b) t := by
  show Option.rec (motive := fun _ => Option (A2 AV)) none (dDcF b).g ((dDdF a).g t) = _
  rw [dDdF_g a ha]
  unfold A2.get
  cases N16.get (dg a) t with
  | none => rfl
  | some s => exact dDcF_g b hb s
theorem pPbF_s (a b : Nat) (ha : a < 16) (hb : b < 16) (t : (A4 AV)) (x : (A2 AV)) (k : (A4 AV) → RF) : (pPbF a b).s t x k = k (A2.set (dg a) (dg b) t x) := by
  rw [← A2.setK_eq (dg a) (dg b) t x k]
  show Option.rec (motive := fun _ => RF) ((dDcF b).s ePbF x fun s => (dDdF a).s t s k) (fun s => (dDcF b).s s x fun s => (dDdF a).s t s k) ((dDdF a).g t) = _
  rw [dDdF_g a ha]
  unfold A2.setK
  cases N16.get (dg a) t with
  | none =>
    show (dDcF b).s ePbF x _ = N16.setK _ _ _ _
    rw [dDcF_s b hb]
    congr 1
    funext s
    exact dDdF_s a ha _ _ _
  | some s =>
    show (dDcF b).s s x _ = N16.setK _ _ _ _
    rw [dDcF_s b hb]
    congr 1
    funext s
    exact dDdF_s a ha _ _ _
structure AccF where
  g : Tr AV → Option AV
  s : Tr AV → AV → (Tr AV → RF) → RF
noncomputable def eaF : A2 AV := .mk none none none none none none none none none none none none none none none none
noncomputable def ebF : A4 AV := .mk none none none none none none none none none none none none none none none none
noncomputable def bigF (pa : PaF) (pb : PbF) (m : A4 AV) (x : AV) (k : A4 AV → RF) : RF :=
  Option.rec (motive := fun _ => RF) (pa.s eaF x fun s => pb.s m s k) (fun s => pa.s s x fun s => pb.s m s k) (pb.g m)
noncomputable def accF (n : Nat) : AccF :=
  Bool.rec (motive := fun _ => AccF)
    (Bool.rec (motive := fun _ => AccF) ⟨fun F => F.at n, fun F x k => F.putK n x k⟩
      ⟨fun F => Option.rec (motive := fun _ => Option AV) none (fun m => Option.rec (motive := fun _ => Option AV) none (pPaF (Nat.mod (Nat.div n 16) 16) (Nat.mod n 16)).g ((pPbF (Nat.div n 4096) (Nat.mod (Nat.div n 256) 16)).g m)) F.m,
       fun F x k => Option.rec (motive := fun _ => RF) (bigF (pPaF (Nat.mod (Nat.div n 16) 16) (Nat.mod n 16)) (pPbF (Nat.div n 4096) (Nat.mod (Nat.div n 256) 16)) ebF x fun m => k ⟨F.s, some m, F.b⟩)
         (fun m => bigF (pPaF (Nat.mod (Nat.div n 16) 16) (Nat.mod n 16)) (pPbF (Nat.div n 4096) (Nat.mod (Nat.div n 256) 16)) m x fun m => k ⟨F.s, some m, F.b⟩) F.m⟩ (Nat.blt n 65536))
    ⟨fun F => (pPaF (Nat.div n 16) (Nat.mod n 16)).g F.s, fun F x k => (pPaF (Nat.div n 16) (Nat.mod n 16)).s F.s x fun s => k ⟨s, F.m, F.b⟩⟩ (Nat.blt n 256)
theorem bigF_eq {a b c d : Nat} (ha : a < 16) (hb : b < 16) (hc : c < 16) (hd : d < 16) (m : A4 AV) (x : AV) (k : A4 AV → RF) : bigF (pPaF c d) (pPbF a b) m x k = A4.setK (dg a) (dg b) (dg c) (dg d) m x k := by
  unfold bigF A4.setK
  rw [pPbF_g a b ha hb]
  cases A2.get (dg a) (dg b) m with
  | none =>
    show (pPaF c d).s eaF x _ = A2.setK _ _ _ _ _
    rw [pPaF_s c d hc hd, A2.setK_eq, pPbF_s a b ha hb, A2.setK_eq]; rfl
  | some s =>
    show (pPaF c d).s s x _ = A2.setK _ _ _ _ _
    rw [pPaF_s c d hc hd, A2.setK_eq, pPbF_s a b ha hb, A2.setK_eq]
theorem accF_g (n : Nat) (F : Tr AV) : (accF n).g F = F.at n := by
  unfold accF
  rcases key_cases n with ⟨h, hk⟩ | ⟨h, h', hk⟩ | ⟨h, hk⟩
  · have hb : Nat.blt n 256 = true := by simpa using h
    rw [hb]
    show (pPaF (n / 16) (n % 16)).g F.s = Tr.getK (key n) F
    rw [hk, pPaF_g _ _ (by omega) (by omega)]
    obtain ⟨s, m, b⟩ := F; rfl
  · have hb : Nat.blt n 256 = false := by rw [Bool.eq_false_iff]; simp; omega
    have hb' : Nat.blt n 65536 = true := by simpa using h'
    rw [hb, hb']
    obtain ⟨s, m, b⟩ := F
    show Option.rec (motive := fun _ => Option AV) none (fun m => Option.rec (motive := fun _ => Option AV) none (pPaF (n / 16 % 16) (n % 16)).g ((pPbF (n / 4096) (n / 256 % 16)).g m)) m = Tr.getK (key n) ⟨s, m, b⟩
    rw [hk]
    cases m with
    | none => rfl
    | some m =>
      show Option.rec (motive := fun _ => Option AV) none (pPaF (n / 16 % 16) (n % 16)).g ((pPbF (n / 4096) (n / 256 % 16)).g m) = A4.get _ _ _ _ m
      rw [pPbF_g _ _ (by omega) (by omega)]
      unfold A4.get
      cases A2.get (dg (n / 4096)) (dg (n / 256 % 16)) m with
      | none => rfl
      | some q => exact pPaF_g _ _ (by omega) (by omega) q
  · have hb : Nat.blt n 256 = false := by rw [Bool.eq_false_iff]; simp; omega
    have hb' : Nat.blt n 65536 = false := by rw [Bool.eq_false_iff]; simp; omega
    rw [hb, hb']
theorem accF_s (n : Nat) (F : Tr AV) (x : AV) (k : Tr AV → RF) : (accF n).s F x k = k (F.put n x) := by
  rw [← Tr.putK_eq F n x k]
  unfold accF
  rcases key_cases n with ⟨h, hk⟩ | ⟨h, h', hk⟩ | ⟨h, hk⟩
  · have hb : Nat.blt n 256 = true := by simpa using h
    rw [hb]
    obtain ⟨s, m, b⟩ := F
    show (pPaF (n / 16) (n % 16)).s s x (fun s => k ⟨s, m, b⟩) = Tr.setKy (key n) ⟨s, m, b⟩ x k
    rw [hk, pPaF_s _ _ (by omega) (by omega), ← A2.setK_eq _ _ _ _ fun s => k ⟨s, m, b⟩]
    rfl
  · have hb : Nat.blt n 256 = false := by rw [Bool.eq_false_iff]; simp; omega
    have hb' : Nat.blt n 65536 = true := by simpa using h'
    rw [hb, hb']
    obtain ⟨s, m, b⟩ := F
    show Option.rec (motive := fun _ => RF) (bigF (pPaF (n / 16 % 16) (n % 16)) (pPbF (n / 4096) (n / 256 % 16)) ebF x fun m => k ⟨s, some m, b⟩)
         (fun m => bigF (pPaF (n / 16 % 16) (n % 16)) (pPbF (n / 4096) (n / 256 % 16)) m x fun m => k ⟨s, some m, b⟩) m = Tr.setKy (key n) ⟨s, m, b⟩ x k
    rw [hk]
    cases m with
    | none => exact bigF_eq (by omega) (by omega) (by omega) (by omega) _ _ _
    | some m => exact bigF_eq (by omega) (by omega) (by omega) (by omega) _ _ _
  · have hb : Nat.blt n 256 = false := by rw [Bool.eq_false_iff]; simp; omega
    have hb' : Nat.blt n 65536 = false := by rw [Bool.eq_false_iff]; simp; omega
    rw [hb, hb']
structure DaC where
  g : N16 (Option AV) → Option AV
  s : N16 (Option AV) → AV → (N16 (Option AV) → RE) → RE
def DaC.no : DaC := ⟨fun _ => none, fun _ _ _ => none⟩
noncomputable def lDaC : List DaC := [
    ⟨fun t => t.c0, fun t x k => N16.rec (motive := fun _ => RE) (fun _c0 c1 c2 c3 c4 c5 c6 c7 c8 c9 c10 c11 c12 c13 c14 c15 => k (N16.mk (some x) c1 c2 c3 c4 c5 c6 c7 c8 c9 c10 c11 c12 c13 c14 c15)) t⟩,
    ⟨fun t => t.c1, fun t x k => N16.rec (motive := fun _ => RE) (fun c0 _c1 c2 c3 c4 c5 c6 c7 c8 c9 c10 c11 c12 c13 c14 c15 => k (N16.mk c0 (some x) c2 c3 c4 c5 c6 c7 c8 c9 c10 c11 c12 c13 c14 c15)) t⟩,
    ⟨fun t => t.c2, fun t x k => N16.rec (motive := fun _ => RE) (fun c0 c1 _c2 c3 c4 c5 c6 c7 c8 c9 c10 c11 c12 c13 c14 c15 => k (N16.mk c0 c1 (some x) c3 c4 c5 c6 c7 c8 c9 c10 c11 c12 c13 c14 c15)) t⟩,
    ⟨fun t => t.c3, fun t x k => N16.rec (motive := fun _ => RE) (fun c0 c1 c2 _c3 c4 c5 c6 c7 c8 c9 c10 c11 c12 c13 c14 c15 => k (N16.mk c0 c1 c2 (some x) c4 c5 c6 c7 c8 c9 c10 c11 c12 c13 c14 c15)) t⟩,
    ⟨fun t => t.c4, fun t x k => N16.rec (motive := fun _ => RE) (fun c0 c1 c2 c3 _c4 c5 c6 c7 c8 c9 c10 c11 c12 c13 c14 c15 => k (N16.mk c0 c1 c2 c3 (some x) c5 c6 c7 c8 c9 c10 c11 c12 c13 c14 c15)) t⟩,
    ⟨fun t => t.c5, fun t x k => N16.rec (motive := fun _ => RE) (fun c0 c1 c2 c3 c4 _c5 c6 c7 c8 c9 c10 c11 c12 c13 c14 c15 => k (N16.mk c0 c1 c2 c3 c4 (some x) c6 c7 c8 c9 c10 c11 c12 c13 c14 c15)) t⟩,
    ⟨fun t => t.c6, fun t x k => N16.rec (motive := fun _ => RE) (fun c0 c1 c2 c3 c4 c5 _c6 c7 c8 c9 c10 c11 c12 c13 c14 c15 => k (N16.mk c0 c1 c2 c3 c4 c5 (some x) c7 c8 c9 c10 c11 c12 c13 c14 c15)) t⟩,
    ⟨fun t => t.c7, fun t x k => N16.rec (motive := fun _ => RE) (fun c0 c1 c2 c3 c4 c5 c6 _c7 c8 c9 c10 c11 c12 c13 c14 c15 => k (N16.mk c0 c1 c2 c3 c4 c5 c6 (some x) c8 c9 c10 c11 c12 c13 c14 c15)) t⟩,
    ⟨fun t => t.c8, fun t x k => N16.rec (motive := fun _ => RE) (fun c0 c1 c2 c3 c4 c5 c6 c7 _c8 c9 c10 c11 c12 c13 c14 c15 => k (N16.mk c0 c1 c2 c3 c4 c5 c6 c7 (some x) c9 c10 c11 c12 c13 c14 c15)) t⟩,
    ⟨fun t => t.c9, fun t x k => N16.rec (motive := fun _ => RE) (fun c0 c1 c2 c3 c4 c5 c6 c7 c8 _c9 c10 c11 c12 c13 c14 c15 => k (N16.mk c0 c1 c2 c3 c4 c5 c6 c7 c8 (some x) c10 c11 c12 c13 c14 c15)) t⟩,
    ⟨fun t => t.c10, fun t x k => N16.rec (motive := fun _ => RE) (fun c0 c1 c2 c3 c4 c5 c6 c7 c8 c9 _c10 c11 c12 c13 c14 c15 => k (N16.mk c0 c1 c2 c3 c4 c5 c6 c7 c8 c9 (some x) c11 c12 c13 c14 c15)) t⟩,
    ⟨fun t => t.c11, fun t x k => N16.rec (motive := fun _ => RE) (fun c0 c1 c2 c3 c4 c5 c6 c7 c8 c9 c10 _c11 c12 c13 c14 c15 => k (N16.mk c0 c1 c2 c3 c4 c5 c6 c7 c8 c9 c10 (some x) c12 c13 c14 c15)) t⟩,
    ⟨fun t => t.c12, fun t x k => N16.rec (motive := fun _ => RE) (fun c0 c1 c2 c3 c4 c5 c6 c7 c8 c9 c10 c11 _c12 c13 c14 c15 => k (N16.mk c0 c1 c2 c3 c4 c5 c6 c7 c8 c9 c10 c11 (some x) c13 c14 c15)) t⟩,
    ⟨fun t => t.c13, fun t x k => N16.rec (motive := fun _ => RE) (fun c0 c1 c2 c3 c4 c5 c6 c7 c8 c9 c10 c11 c12 _c13 c14 c15 => k (N16.mk c0 c1 c2 c3 c4 c5 c6 c7 c8 c9 c10 c11 c12 (some x) c14 c15)) t⟩,
    ⟨fun t => t.c14, fun t x k => N16.rec (motive := fun _ => RE) (fun c0 c1 c2 c3 c4 c5 c6 c7 c8 c9 c10 c11 c12 c13 _c14 c15 => k (N16.mk c0 c1 c2 c3 c4 c5 c6 c7 c8 c9 c10 c11 c12 c13 (some x) c15)) t⟩,
    ⟨fun t => t.c15, fun t x k => N16.rec (motive := fun _ => RE) (fun c0 c1 c2 c3 c4 c5 c6 c7 c8 c9 c10 c11 c12 c13 c14 _c15 => k (N16.mk c0 c1 c2 c3 c4 c5 c6 c7 c8 c9 c10 c11 c12 c13 c14 (some x))) t⟩]
noncomputable def dDaC (i : Nat) : DaC := lDaC.getD i DaC.no
theorem dDaC_g : ∀ i, i < 16 → ∀ t, (dDaC i).g t = N16.get (dg i) t
  | 0, _, _ | 1, _, _ | 2, _, _ | 3, _, _ | 4, _, _ | 5, _, _ | 6, _, _ | 7, _, _ | 8, _, _ | 9, _, _ | 10, _, _ | 11, _, _ | 12, _, _ | 13, _, _ | 14, _, _ | 15, _, _ => rfl
  | n + 16, h, _ => absurd h (by omega)
theorem dDaC_s : ∀ i, i < 16 → ∀ t x k, (dDaC i).s t x k = N16.setK (dg i) t (some x) k
  | 0, _, _, _, _ | 1, _, _, _, _ | 2, _, _, _, _ | 3, _, _, _, _ | 4, _, _, _, _ | 5, _, _, _, _ | 6, _, _, _, _ | 7, _, _, _, _ | 8, _, _, _, _ | 9, _, _, _, _ | 10, _, _, _, _ | 11, _, _, _, _ | 12, _, _, _, _ | 13, _, _, _, _ | 14, _, _, _, _ | 15, _, _, _, _ => rfl
  | n + 16, h, _, _, _ => absurd h (by omega)
structure DbC where
  g : N16 (Option (N16 (Option AV))) → Option (N16 (Option AV))
  s : N16 (Option (N16 (Option AV))) → (N16 (Option AV)) → (N16 (Option (N16 (Option AV))) → RE) → RE
def DbC.no : DbC := ⟨fun _ => none, fun _ _ _ => none⟩
noncomputable def lDbC : List DbC := [
    ⟨fun t => t.c0, fun t x k => N16.rec (motive := fun _ => RE) (fun _c0 c1 c2 c3 c4 c5 c6 c7 c8 c9 c10 c11 c12 c13 c14 c15 => k (N16.mk (some x) c1 c2 c3 c4 c5 c6 c7 c8 c9 c10 c11 c12 c13 c14 c15)) t⟩,
    ⟨fun t => t.c1, fun t x k => N16.rec (motive := fun _ => RE) (fun c0 _c1 c2 c3 c4 c5 c6 c7 c8 c9 c10 c11 c12 c13 c14 c15 => k (N16.mk c0 (some x) c2 c3 c4 c5 c6 c7 c8 c9 c10 c11 c12 c13 c14 c15)) t⟩,
    ⟨fun t => t.c2, fun t x k => N16.rec (motive := fun _ => RE) (fun c0 c1 _c2 c3 c4 c5 c6 c7 c8 c9 c10 c11 c12 c13 c14 c15 => k (N16.mk c0 c1 (some x) c3 c4 c5 c6 c7 c8 c9 c10 c11 c12 c13 c14 c15)) t⟩,
    ⟨fun t => t.c3, fun t x k => N16.rec (motive := fun _ => RE) (fun c0 c1 c2 _c3 c4 c5 c6 c7 c8 c9 c10 c11 c12 c13 c14 c15 => k (N16.mk c0 c1 c2 (some x) c4 c5 c6 c7 c8 c9 c10 c11 c12 c13 c14 c15)) t⟩,
    ⟨fun t => t.c4, fun t x k => N16.rec (motive := fun _ => RE) (fun c0 c1 c2 c3 _c4 c5 c6 c7 c8 c9 c10 c11 c12 c13 c14 c15 => k (N16.mk c0 c1 c2 c3 (some x) c5 c6 c7 c8 c9 c10 c11 c12 c13 c14 c15)) t⟩,
    ⟨fun t => t.c5, fun t x k => N16.rec (motive := fun _ => RE) (fun c0 c1 c2 c3 c4 _c5 c6 c7 c8 c9 c10 c11 c12 c13 c14 c15 => k (N16.mk c0 c1 c2 c3 c4 (some x) c6 c7 c8 c9 c10 c11 c12 c13 c14 c15)) t⟩,
    ⟨fun t => t.c6, fun t x k => N16.rec (motive := fun _ => RE) (fun c0 c1 c2 c3 c4 c5 _c6 c7 c8 c9 c10 c11 c12 c13 c14 c15 => k (N16.mk c0 c1 c2 c3 c4 c5 (some x) c7 c8 c9 c10 c11 c12 c13 c14 c15)) t⟩,
    ⟨fun t => t.c7, fun t x k => N16.rec (motive := fun _ => RE) (fun c0 c1 c2 c3 c4 c5 c6 _c7 c8 c9 c10 c11 c12 c13 c14 c15 => k (N16.mk c0 c1 c2 c3 c4 c5 c6 (some x) c8 c9 c10 c11 c12 c13 c14 c15)) t⟩,
    ⟨fun t => t.c8, fun t x k => N16.rec (motive := fun _ => RE) (fun c0 c1 c2 c3 c4 c5 c6 c7 _c8 c9 c10 c11 c12 c13 c14 c15 => k (N16.mk c0 c1 c2 c3 c4 c5 c6 c7 (some x) c9 c10 c11 c12 c13 c14 c15)) t⟩,
    ⟨fun t => t.c9, fun t x k => N16.rec (motive := fun _ => RE) (fun c0 c1 c2 c3 c4 c5 c6 c7 c8 _c9 c10 c11 c12 c13 c14 c15 => k (N16.mk c0 c1 c2 c3 c4 c5 c6 c7 c8 (some x) c10 c11 c12 c13 c14 c15)) t⟩,
    ⟨fun t => t.c10, fun t x k => N16.rec (motive := fun _ => RE) (fun c0 c1 c2 c3 c4 c5 c6 c7 c8 c9 _c10 c11 c12 c13 c14 c15 => k (N16.mk c0 c1 c2 c3 c4 c5 c6 c7 c8 c9 (some x) c11 c12 c13 c14 c15)) t⟩,
    ⟨fun t => t.c11, fun t x k => N16.rec (motive := fun _ => RE) (fun c0 c1 c2 c3 c4 c5 c6 c7 c8 c9 c10 _c11 c12 c13 c14 c15 => k (N16.mk c0 c1 c2 c3 c4 c5 c6 c7 c8 c9 c10 (some x) c12 c13 c14 c15)) t⟩,
    ⟨fun t => t.c12, fun t x k => N16.rec (motive := fun _ => RE) (fun c0 c1 c2 c3 c4 c5 c6 c7 c8 c9 c10 c11 _c12 c13 c14 c15 => k (N16.mk c0 c1 c2 c3 c4 c5 c6 c7 c8 c9 c10 c11 (some x) c13 c14 c15)) t⟩,
    ⟨fun t => t.c13, fun t x k => N16.rec (motive := fun _ => RE) (fun c0 c1 c2 c3 c4 c5 c6 c7 c8 c9 c10 c11 c12 _c13 c14 c15 => k (N16.mk c0 c1 c2 c3 c4 c5 c6 c7 c8 c9 c10 c11 c12 (some x) c14 c15)) t⟩,
    ⟨fun t => t.c14, fun t x k => N16.rec (motive := fun _ => RE) (fun c0 c1 c2 c3 c4 c5 c6 c7 c8 c9 c10 c11 c12 c13 _c14 c15 => k (N16.mk c0 c1 c2 c3 c4 c5 c6 c7 c8 c9 c10 c11 c12 c13 (some x) c15)) t⟩,
    ⟨fun t => t.c15, fun t x k => N16.rec (motive := fun _ => RE) (fun c0 c1 c2 c3 c4 c5 c6 c7 c8 c9 c10 c11 c12 c13 c14 _c15 => k (N16.mk c0 c1 c2 c3 c4 c5 c6 c7 c8 c9 c10 c11 c12 c13 c14 (some x))) t⟩]
noncomputable def dDbC (i : Nat) : DbC := lDbC.getD i DbC.no
theorem dDbC_g : ∀ i, i < 16 → ∀ t, (dDbC i).g t = N16.get (dg i) t
  | 0, _, _ | 1, _, _ | 2, _, _ | 3, _, _ | 4, _, _ | 5, _, _ | 6, _, _ | 7, _, _ | 8, _, _ | 9, _, _ | 10, _, _ | 11, _, _ | 12, _, _ | 13, _, _ | 14, _, _ | 15, _, _ => rfl
  | n + 16, h, _ => absurd h (by omega)
theorem dDbC_s : ∀ i, i < 16 → ∀ t x k, (dDbC i).s t x k = N16.setK (dg i) t (some x) k
  | 0, _, _, _, _ | 1, _, _, _, _ | 2, _, _, _, _ | 3, _, _, _, _ | 4, _, _, _, _ | 5, _, _, _, _ | 6, _, _, _, _ | 7, _, _, _, _ | 8, _, _, _, _ | 9, _, _, _, _ | 10, _, _, _, _ | 11, _, _, _, _ | 12, _, _, _, _ | 13, _, _, _, _ | 14, _, _, _, _ | 15, _, _, _, _ => rfl
  | n + 16, h, _, _, _ => absurd h (by omega)
structure DcC where
  g : N16 (Option (A2 AV)) → Option (A2 AV)
  s : N16 (Option (A2 AV)) → (A2 AV) → (N16 (Option (A2 AV)) → RE) → RE
def DcC.no : DcC := ⟨fun _ => none, fun _ _ _ => none⟩
noncomputable def lDcC : List DcC := [
    ⟨fun t => t.c0, fun t x k => N16.rec (motive := fun _ => RE) (fun _c0 c1 c2 c3 c4 c5 c6 c7 c8 c9 c10 c11 c12 c13 c14 c15 => k (N16.mk (some x) c1 c2 c3 c4 c5 c6 c7 c8 c9 c10 c11 c12 c13 c14 c15)) t⟩,
    ⟨fun t => t.c1, fun t x k => N16.rec (motive := fun _ => RE) (fun c0 _c1 c2 c3 c4 c5 c6 c7 c8 c9 c10 c11 c12 c13 c14 c15 => k (N16.mk c0 (some x) c2 c3 c4 c5 c6 c7 c8 c9 c10 c11 c12 c13 c14 c15)) t⟩,
    ⟨fun t => t.c2, fun t x k => N16.rec (motive := fun _ => RE) (fun c0 c1 _c2 c3 c4 c5 c6 c7 c8 c9 c10 c11 c12 c13 c14 c15 => k (N16.mk c0 c1 (some x) c3 c4 c5 c6 c7 c8 c9 c10 c11 c12 c13 c14 c15)) t⟩,
    ⟨fun t => t.c3, fun t x k => N16.rec (motive := fun _ => RE) (fun c0 c1 c2 _c3 c4 c5 c6 c7 c8 c9 c10 c11 c12 c13 c14 c15 => k (N16.mk c0 c1 c2 (some x) c4 c5 c6 c7 c8 c9 c10 c11 c12 c13 c14 c15)) t⟩,
    ⟨fun t => t.c4, fun t x k => N16.rec (motive := fun _ => RE) (fun c0 c1 c2 c3 _c4 c5 c6 c7 c8 c9 c10 c11 c12 c13 c14 c15 => k (N16.mk c0 c1 c2 c3 (some x) c5 c6 c7 c8 c9 c10 c11 c12 c13 c14 c15)) t⟩,
    ⟨fun t => t.c5, fun t x k => N16.rec (motive := fun _ => RE) (fun c0 c1 c2 c3 c4 _c5 c6 c7 c8 c9 c10 c11 c12 c13 c14 c15 => k (N16.mk c0 c1 c2 c3 c4 (some x) c6 c7 c8 c9 c10 c11 c12 c13 c14 c15)) t⟩,
    ⟨fun t => t.c6, fun t x k => N16.rec (motive := fun _ => RE) (fun c0 c1 c2 c3 c4 c5 _c6 c7 c8 c9 c10 c11 c12 c13 c14 c15 => k (N16.mk c0 c1 c2 c3 c4 c5 (some x) c7 c8 c9 c10 c11 c12 c13 c14 c15)) t⟩,
    ⟨fun t => t.c7, fun t x k => N16.rec (motive := fun _ => RE) (fun c0 c1 c2 c3 c4 c5 c6 _c7 c8 c9 c10 c11 c12 c13 c14 c15 => k (N16.mk c0 c1 c2 c3 c4 c5 c6 (some x) c8 c9 c10 c11 c12 c13 c14 c15)) t⟩,
    ⟨fun t => t.c8, fun t x k => N16.rec (motive := fun _ => RE) (fun c0 c1 c2 c3 c4 c5 c6 c7 _c8 c9 c10 c11 c12 c13 c14 c15 => k (N16.mk c0 c1 c2 c3 c4 c5 c6 c7 (some x) c9 c10 c11 c12 c13 c14 c15)) t⟩,
    ⟨fun t => t.c9, fun t x k => N16.rec (motive := fun _ => RE) (fun c0 c1 c2 c3 c4 c5 c6 c7 c8 _c9 c10 c11 c12 c13 c14 c15 => k (N16.mk c0 c1 c2 c3 c4 c5 c6 c7 c8 (some x) c10 c11 c12 c13 c14 c15)) t⟩,
    ⟨fun t => t.c10, fun t x k => N16.rec (motive := fun _ => RE) (fun c0 c1 c2 c3 c4 c5 c6 c7 c8 c9 _c10 c11 c12 c13 c14 c15 => k (N16.mk c0 c1 c2 c3 c4 c5 c6 c7 c8 c9 (some x) c11 c12 c13 c14 c15)) t⟩,
    ⟨fun t => t.c11, fun t x k => N16.rec (motive := fun _ => RE) (fun c0 c1 c2 c3 c4 c5 c6 c7 c8 c9 c10 _c11 c12 c13 c14 c15 => k (N16.mk c0 c1 c2 c3 c4 c5 c6 c7 c8 c9 c10 (some x) c12 c13 c14 c15)) t⟩,
    ⟨fun t => t.c12, fun t x k => N16.rec (motive := fun _ => RE) (fun c0 c1 c2 c3 c4 c5 c6 c7 c8 c9 c10 c11 _c12 c13 c14 c15 => k (N16.mk c0 c1 c2 c3 c4 c5 c6 c7 c8 c9 c10 c11 (some x) c13 c14 c15)) t⟩,
    ⟨fun t => t.c13, fun t x k => N16.rec (motive := fun _ => RE) (fun c0 c1 c2 c3 c4 c5 c6 c7 c8 c9 c10 c11 c12 _c13 c14 c15 => k (N16.mk c0 c1 c2 c3 c4 c5 c6 c7 c8 c9 c10 c11 c12 (some x) c14 c15)) t⟩,
    ⟨fun t => t.c14, fun t x k => N16.rec (motive := fun _ => RE) (fun c0 c1 c2 c3 c4 c5 c6 c7 c8 c9 c10 c11 c12 c13 _c14 c15 => k (N16.mk c0 c1 c2 c3 c4 c5 c6 c7 c8 c9 c10 c11 c12 c13 (some x) c15)) t⟩,
    ⟨fun t => t.c15, fun t x k => N16.rec (motive := fun _ => RE) (fun c0 c1 c2 c3 c4 c5 c6 c7 c8 c9 c10 c11 c12 c13 c14 _c15 => k (N16.mk c0 c1 c2 c3 c4 c5 c6 c7 c8 c9 c10 c11 c12 c13 c14 (some x))) t⟩]
noncomputable def dDcC (i : Nat) : DcC := lDcC.getD i DcC.no
theorem dDcC_g : ∀ i, i < 16 → ∀ t, (dDcC i).g t = N16.get (dg i) t
  | 0, _, _ | 1, _, _ | 2, _, _ | 3, _, _ | 4, _, _ | 5, _, _ | 6, _, _ | 7, _, _ | 8, _, _ | 9, _, _ | 10, _, _ | 11, _, _ | 12, _, _ | 13, _, _ | 14, _, _ | 15, _, _ => rfl
  | n + 16, h, _ => absurd h (by omega)
theorem dDcC_s : ∀ i, i < 16 → ∀ t x k, (dDcC i).s t x k = N16.setK (dg i) t (some x) k
  | 0, _, _, _, _ | 1, _, _, _, _ | 2, _, _, _, _ | 3, _, _, _, _ | 4, _, _, _, _ | 5, _, _, _, _ | 6, _, _, _, _ | 7, _, _, _, _ | 8, _, _, _, _ | 9, _, _, _, _ | 10, _, _, _, _ | 11, _, _, _, _ | 12, _, _, _, _ | 13, _, _, _, _ | 14, _, _, _, _ | 15, _, _, _, _ => rfl
  | n + 16, h, _, _, _ => absurd h (by omega)
structure DdC where
  g : N16 (Option (N16 (Option (A2 AV)))) → Option (N16 (Option (A2 AV)))
  s : N16 (Option (N16 (Option (A2 AV)))) → (N16 (Option (A2 AV))) → (N16 (Option (N16 (Option (A2 AV)))) → RE) → RE
def DdC.no : DdC := ⟨fun _ => none, fun _ _ _ => none⟩
noncomputable def lDdC : List DdC := [
    ⟨fun t => t.c0, fun t x k => N16.rec (motive := fun _ => RE) (fun _c0 c1 c2 c3 c4 c5 c6 c7 c8 c9 c10 c11 c12 c13 c14 c15 => k (N16.mk (some x) c1 c2 c3 c4 c5 c6 c7 c8 c9 c10 c11 c12 c13 c14 c15)) t⟩,
    ⟨fun t => t.c1, fun t x k => N16.rec (motive := fun _ => RE) (fun c0 _c1 c2 c3 c4 c5 c6 c7 c8 c9 c10 c11 c12 c13 c14 c15 => k (N16.mk c0 (some x) c2 c3 c4 c5 c6 c7 c8 c9 c10 c11 c12 c13 c14 c15)) t⟩,
    ⟨fun t => t.c2, fun t x k => N16.rec (motive := fun _ => RE) (fun c0 c1 _c2 c3 c4 c5 c6 c7 c8 c9 c10 c11 c12 c13 c14 c15 => k (N16.mk c0 c1 (some x) c3 c4 c5 c6 c7 c8 c9 c10 c11 c12 c13 c14 c15)) t⟩,
    ⟨fun t => t.c3, fun t x k => N16.rec (motive := fun _ => RE) (fun c0 c1 c2 _c3 c4 c5 c6 c7 c8 c9 c10 c11 c12 c13 c14 c15 => k (N16.mk c0 c1 c2 (some x) c4 c5 c6 c7 c8 c9 c10 c11 c12 c13 c14 c15)) t⟩,
    ⟨fun t => t.c4, fun t x k => N16.rec (motive := fun _ => RE) (fun c0 c1 c2 c3 _c4 c5 c6 c7 c8 c9 c10 c11 c12 c13 c14 c15 => k (N16.mk c0 c1 c2 c3 (some x) c5 c6 c7 c8 c9 c10 c11 c12 c13 c14 c15)) t⟩,
    ⟨fun t => t.c5, fun t x k => N16.rec (motive := fun _ => RE) (fun c0 c1 c2 c3 c4 _c5 c6 c7 c8 c9 c10 c11 c12 c13 c14 c15 => k (N16.mk c0 c1 c2 c3 c4 (some x) c6 c7 c8 c9 c10 c11 c12 c13 c14 c15)) t⟩,
    ⟨fun t => t.c6, fun t x k => N16.rec (motive := fun _ => RE) (fun c0 c1 c2 c3 c4 c5 _c6 c7 c8 c9 c10 c11 c12 c13 c14 c15 => k (N16.mk c0 c1 c2 c3 c4 c5 (some x) c7 c8 c9 c10 c11 c12 c13 c14 c15)) t⟩,
    ⟨fun t => t.c7, fun t x k => N16.rec (motive := fun _ => RE) (fun c0 c1 c2 c3 c4 c5 c6 _c7 c8 c9 c10 c11 c12 c13 c14 c15 => k (N16.mk c0 c1 c2 c3 c4 c5 c6 (some x) c8 c9 c10 c11 c12 c13 c14 c15)) t⟩,
    ⟨fun t => t.c8, fun t x k => N16.rec (motive := fun _ => RE) (fun c0 c1 c2 c3 c4 c5 c6 c7 _c8 c9 c10 c11 c12 c13 c14 c15 => k (N16.mk c0 c1 c2 c3 c4 c5 c6 c7 (some x) c9 c10 c11 c12 c13 c14 c15)) t⟩,
    ⟨fun t => t.c9, fun t x k => N16.rec (motive := fun _ => RE) (fun c0 c1 c2 c3 c4 c5 c6 c7 c8 _c9 c10 c11 c12 c13 c14 c15 => k (N16.mk c0 c1 c2 c3 c4 c5 c6 c7 c8 (some x) c10 c11 c12 c13 c14 c15)) t⟩,
    ⟨fun t => t.c10, fun t x k => N16.rec (motive := fun _ => RE) (fun c0 c1 c2 c3 c4 c5 c6 c7 c8 c9 _c10 c11 c12 c13 c14 c15 => k (N16.mk c0 c1 c2 c3 c4 c5 c6 c7 c8 c9 (some x) c11 c12 c13 c14 c15)) t⟩,
    ⟨fun t => t.c11, fun t x k => N16.rec (motive := fun _ => RE) (fun c0 c1 c2 c3 c4 c5 c6 c7 c8 c9 c10 _c11 c12 c13 c14 c15 => k (N16.mk c0 c1 c2 c3 c4 c5 c6 c7 c8 c9 c10 (some x) c12 c13 c14 c15)) t⟩,
    ⟨fun t => t.c12, fun t x k => N16.rec (motive := fun _ => RE) (fun c0 c1 c2 c3 c4 c5 c6 c7 c8 c9 c10 c11 _c12 c13 c14 c15 => k (N16.mk c0 c1 c2 c3 c4 c5 c6 c7 c8 c9 c10 c11 (some x) c13 c14 c15)) t⟩,
    ⟨fun t => t.c13, fun t x k => N16.rec (motive := fun _ => RE) (fun c0 c1 c2 c3 c4 c5 c6 c7 c8 c9 c10 c11 c12 _c13 c14 c15 => k (N16.mk c0 c1 c2 c3 c4 c5 c6 c7 c8 c9 c10 c11 c12 (some x) c14 c15)) t⟩,
    ⟨fun t => t.c14, fun t x k => N16.rec (motive := fun _ => RE) (fun c0 c1 c2 c3 c4 c5 c6 c7 c8 c9 c10 c11 c12 c13 _c14 c15 => k (N16.mk c0 c1 c2 c3 c4 c5 c6 c7 c8 c9 c10 c11 c12 c13 (some x) c15)) t⟩,
    ⟨fun t => t.c15, fun t x k => N16.rec (motive := fun _ => RE) (fun c0 c1 c2 c3 c4 c5 c6 c7 c8 c9 c10 c11 c12 c13 c14 _c15 => k (N16.mk c0 c1 c2 c3 c4 c5 c6 c7 c8 c9 c10 c11 c12 c13 c14 (some x))) t⟩]
noncomputable def dDdC (i : Nat) : DdC := lDdC.getD i DdC.no
theorem dDdC_g : ∀ i, i < 16 → ∀ t, (dDdC i).g t = N16.get (dg i) t
  | 0, _, _ | 1, _, _ | 2, _, _ | 3, _, _ | 4, _, _ | 5, _, _ | 6, _, _ | 7, _, _ | 8, _, _ | 9, _, _ | 10, _, _ | 11, _, _ | 12, _, _ | 13, _, _ | 14, _, _ | 15, _, _ => rfl
  | n + 16, h, _ => absurd h (by omega)
theorem dDdC_s : ∀ i, i < 16 → ∀ t x k, (dDdC i).s t x k = N16.setK (dg i) t (some x) k
  | 0, _, _, _, _ | 1, _, _, _, _ | 2, _, _, _, _ | 3, _, _, _, _ | 4, _, _, _, _ | 5, _, _, _, _ | 6, _, _, _, _ | 7, _, _, _, _ | 8, _, _, _, _ | 9, _, _, _, _ | 10, _, _, _, _ | 11, _, _, _, _ | 12, _, _, _, _ | 13, _, _, _, _ | 14, _, _, _, _ | 15, _, _, _, _ => rfl
  | n + 16, h, _, _, _ => absurd h (by omega)
structure PaC where
  g : (A2 AV) → Option AV
  s : (A2 AV) → AV → ((A2 AV) → RE) → RE
noncomputable def ePaC : (N16 (Option AV)) := .mk none none none none none none none none none none none none none none none none
noncomputable def pPaC (a b : Nat) : PaC :=
  ⟨fun t => Option.rec (motive := fun _ => Option AV) none (dDaC b).g ((dDbC a).g t),
   fun t x k => Option.rec (motive := fun _ => RE) ((dDaC b).s ePaC x fun s => (dDbC a).s t s k) (fun s => (dDaC b).s s x fun s => (dDbC a).s t s k) ((dDbC a).g t)⟩
theorem pPaC_g (a b : Nat) (ha : a < 16) (hb : b < 16) (t : (A2 AV)) : (pPaC a b).g t = A2.get (dg a) (dg b) t := by
  show Option.rec (motive := fun _ => Option AV) none (dDaC b).g ((dDbC a).g t) = _
  rw [dDbC_g a ha]
  unfold A2.get
  cases N16.get (dg a) t with
  | none => rfl
  | some s => exact dDaC_g b hb s
theorem pPaC_s (a b : Nat) (ha : a < 16) (hb : b < 16) (t : (A2 AV)) (x : AV) (k : (A2 AV) → RE) : (pPaC a b).s t x k = k (A2.set (dg a) (dg b) t x) := by
  rw [← A2.setK_eq (dg a) (dg b) t x k]
  show Option.rec (motive := fun _ => RE) ((dDaC b).s ePaC x fun s => (dDbC a).s t s k) (fun s => (dDaC b).s s x fun s => (dDbC a).s t s k) ((dDbC a).g t) = _
  rw [dDbC_g a ha]
  unfold A2.setK
  cases N16.get (dg a) t with
  | none =>
    show (dDaC b).s ePaC x _ = N16.setK _ _ _ _
    rw [dDaC_s b hb]
    congr 1
    funext s
    exact dDbC_s a ha _ _ _
  | some s =>
    show (dDaC b).s s x _ = N16.setK _ _ _ _
    rw [dDaC_s b hb]
    congr 1
    funext s
    exact dDbC_s a ha _ _ _
structure PbC where
  g : (A4 AV) → Option (A2 AV)
  s : (A4 AV) → (A2 AV) → ((A4 AV) → RE) → RE
noncomputable def ePbC : (N16 (Option (A2 AV))) := .mk none none none none none none none none none none none none none none none none
noncomputable def pPbC (a b : Nat) : PbC :=
  ⟨fun t => Option.rec (motive := fun _ => Option (A2 AV)) none (dDcC b).g ((dDdC a).g t),
   fun t x k => Option.rec (motive := fun _ => RE) ((dDcC b).s ePbC x fun s => (dDdC a).s t s k) (fun s => (dDcC b).s s x fun s => (dDdC a).s t s k) ((dDdC a).g t)⟩
theorem pPbC_g (a b : Nat) (ha : a < 16) (hb : b < 16) (t : (A4 AV)) : (pPbC a b).g t = A2.get (dg a) (dg b) t := by
  show Option.rec (motive := fun _ => Option (A2 AV)) none (dDcC b).g ((dDdC a).g t) = _
  rw [dDdC_g a ha]
  unfold A2.get
  cases N16.get (dg a) t with
  | none => rfl
  | some s => exact dDcC_g b hb s
theorem pPbC_s (a b : Nat) (ha : a < 16) (hb : b < 16) (t : (A4 AV)) (x : (A2 AV)) (k : (A4 AV) → RE) : (pPbC a b).s t x k = k (A2.set (dg a) (dg b) t x) := by
  rw [← A2.setK_eq (dg a) (dg b) t x k]
  show Option.rec (motive := fun _ => RE) ((dDcC b).s ePbC x fun s => (dDdC a).s t s k) (fun s => (dDcC b).s s x fun s => (dDdC a).s t s k) ((dDdC a).g t) = _
  rw [dDdC_g a ha]
  unfold A2.setK
  cases N16.get (dg a) t with
  | none =>
    show (dDcC b).s ePbC x _ = N16.setK _ _ _ _
    rw [dDcC_s b hb]
    congr 1
    funext s
    exact dDdC_s a ha _ _ _
  | some s =>
    show (dDcC b).s s x _ = N16.setK _ _ _ _
    rw [dDcC_s b hb]
    congr 1
    funext s
    exact dDdC_s a ha _ _ _
structure AccC where
  g : Tr AV → Option AV
  s : Tr AV → AV → (Tr AV → RE) → RE
noncomputable def eaC : A2 AV := .mk none none none none none none none none none none none none none none none none
noncomputable def ebC : A4 AV := .mk none none none none none none none none none none none none none none none none
noncomputable def bigC (pa : PaC) (pb : PbC) (m : A4 AV) (x : AV) (k : A4 AV → RE) : RE :=
  Option.rec (motive := fun _ => RE) (pa.s eaC x fun s => pb.s m s k) (fun s => pa.s s x fun s => pb.s m s k) (pb.g m)
noncomputable def accC (n : Nat) : AccC :=
  Bool.rec (motive := fun _ => AccC)
    (Bool.rec (motive := fun _ => AccC) ⟨fun F => F.at n, fun F x k => F.putK n x k⟩
      ⟨fun F => Option.rec (motive := fun _ => Option AV) none (fun m => Option.rec (motive := fun _ => Option AV) none (pPaC (Nat.mod (Nat.div n 16) 16) (Nat.mod n 16)).g ((pPbC (Nat.div n 4096) (Nat.mod (Nat.div n 256) 16)).g m)) F.m,
       fun F x k => Option.rec (motive := fun _ => RE) (bigC (pPaC (Nat.mod (Nat.div n 16) 16) (Nat.mod n 16)) (pPbC (Nat.div n 4096) (Nat.mod (Nat.div n 256) 16)) ebC x fun m => k ⟨F.s, some m, F.b⟩)
         (fun m => bigC (pPaC (Nat.mod (Nat.div n 16) 16) (Nat.mod n 16)) (pPbC (Nat.div n 4096) (Nat.mod (Nat.div n 256) 16)) m x fun m => k ⟨F.s, some m, F.b⟩) F.m⟩ (Nat.blt n 65536))
    ⟨fun F => (pPaC (Nat.div n 16) (Nat.mod n 16)).g F.s, fun F x k => (pPaC (Nat.div n 16) (Nat.mod n 16)).s F.s x fun s => k ⟨s, F.m, F.b⟩⟩ (Nat.blt n 256)
theorem bigC_eq {a b c d : Nat} (ha : a < 16) (hb : b < 16) (hc : c < 16) (hd : d < 16) (m : A4 AV) (x : AV) (k : A4 AV → RE) : bigC (pPaC c d) (pPbC a b) m x k = A4.setK (dg a) (dg b) (dg c) (dg d) m x k := by
  unfold bigC A4.setK
  rw [pPbC_g a b ha hb]
  cases A2.get (dg a) (dg b) m with
  | none =>
    show (pPaC c d).s eaC x _ = A2.setK _ _ _ _ _
    rw [pPaC_s c d hc hd, A2.setK_eq, pPbC_s a b ha hb, A2.setK_eq]; rfl
  | some s =>
    show (pPaC c d).s s x _ = A2.setK _ _ _ _ _
    rw [pPaC_s c d hc hd, A2.setK_eq, pPbC_s a b ha hb, A2.setK_eq]
theorem accC_g (n : Nat) (F : Tr AV) : (accC n).g F = F.at n := by
  unfold accC
  rcases key_cases n with ⟨h, hk⟩ | ⟨h, h', hk⟩ | ⟨h, hk⟩
  · have hb : Nat.blt n 256 = true := by simpa using h
    rw [hb]
    show (pPaC (n / 16) (n % 16)).g F.s = Tr.getK (key n) F
    rw [hk, pPaC_g _ _ (by omega) (by omega)]
    obtain ⟨s, m, b⟩ := F; rfl
  · have hb : Nat.blt n 256 = false := by rw [Bool.eq_false_iff]; simp; omega
    have hb' : Nat.blt n 65536 = true := by simpa using h'
    rw [hb, hb']
    obtain ⟨s, m, b⟩ := F
    show Option.rec (motive := fun _ => Option AV) none (fun m => Option.rec (motive := fun _ => Option AV) none (pPaC (n / 16 % 16) (n % 16)).g ((pPbC (n / 4096) (n / 256 % 16)).g m)) m = Tr.getK (key n) ⟨s, m, b⟩
    rw [hk]
    cases m with
    | none => rfl
    | some m =>
      show Option.rec (motive := fun _ => Option AV) none (pPaC (n / 16 % 16) (n % 16)).g ((pPbC (n / 4096) (n / 256 % 16)).g m) = A4.get _ _ _ _ m
      rw [pPbC_g _ _ (by omega) (by omega)]
      unfold A4.get
      cases A2.get (dg (n / 4096)) (dg (n / 256 % 16)) m with
      | none => rfl
      | some q => exact pPaC_g _ _ (by omega) (by omega) q
  · have hb : Nat.blt n 256 = false := by rw [Bool.eq_false_iff]; simp; omega
    have hb' : Nat.blt n 65536 = false := by rw [Bool.eq_false_iff]; simp; omega
    rw [hb, hb']
theorem accC_s (n : Nat) (F : Tr AV) (x : AV) (k : Tr AV → RE) : (accC n).s F x k = k (F.put n x) := by
  rw [← Tr.putK_eq F n x k]
  unfold accC
  rcases key_cases n with ⟨h, hk⟩ | ⟨h, h', hk⟩ | ⟨h, hk⟩
  · have hb : Nat.blt n 256 = true := by simpa using h
    rw [hb]
    obtain ⟨s, m, b⟩ := F
    show (pPaC (n / 16) (n % 16)).s s x (fun s => k ⟨s, m, b⟩) = Tr.setKy (key n) ⟨s, m, b⟩ x k
    rw [hk, pPaC_s _ _ (by omega) (by omega), ← A2.setK_eq _ _ _ _ fun s => k ⟨s, m, b⟩]
    rfl
  · have hb : Nat.blt n 256 = false := by rw [Bool.eq_false_iff]; simp; omega
    have hb' : Nat.blt n 65536 = true := by simpa using h'
    rw [hb, hb']
    obtain ⟨s, m, b⟩ := F
    show Option.rec (motive := fun _ => RE) (bigC (pPaC (n / 16 % 16) (n % 16)) (pPbC (n / 4096) (n / 256 % 16)) ebC x fun m => k ⟨s, some m, b⟩)
         (fun m => bigC (pPaC (n / 16 % 16) (n % 16)) (pPbC (n / 4096) (n / 256 % 16)) m x fun m => k ⟨s, some m, b⟩) m = Tr.setKy (key n) ⟨s, m, b⟩ x k
    rw [hk]
    cases m with
    | none => exact bigC_eq (by omega) (by omega) (by omega) (by omega) _ _ _
    | some m => exact bigC_eq (by omega) (by omega) (by omega) (by omega) _ _ _
  · have hb : Nat.blt n 256 = false := by rw [Bool.eq_false_iff]; simp; omega
    have hb' : Nat.blt n 65536 = false := by rw [Bool.eq_false_iff]; simp; omega
    rw [hb, hb']
structure DaH where
  g : N16 (Option AObj) → Option AObj
  s : N16 (Option AObj) → AObj → (N16 (Option AObj) → RE) → RE
def DaH.no : DaH := ⟨fun _ => none, fun _ _ _ => none⟩
noncomputable def lDaH : List DaH := [
    ⟨fun t => t.c0, fun t x k => N16.rec (motive := fun _ => RE) (fun _c0 c1 c2 c3 c4 c5 c6 c7 c8 c9 c10 c11 c12 c13 c14 c15 => k (N16.mk (some x) c1 c2 c3 c4 c5 c6 c7 c8 c9 c10 c11 c12 c13 c14 c15)) t⟩,
    ⟨fun t => t.c1, fun t x k => N16.rec (motive := fun _ => RE) (fun c0 _c1 c2 c3 c4 c5 c6 c7 c8 c9 c10 c11 c12 c13 c14 c15 => k (N16.mk c0 (some x) c2 c3 c4 c5 c6 c7 c8 c9 c10 c11 c12 c13 c14 c15)) t⟩,
    ⟨fun t => t.c2, fun t x k => N16.rec (motive := fun _ => RE) (fun c0 c1 _c2 c3 c4 c5 c6 c7 c8 c9 c10 c11 c12 c13 c14 c15 => k (N16.mk c0 c1 (some x) c3 c4 c5 c6 c7 c8 c9 c10 c11 c12 c13 c14 c15)) t⟩,
    ⟨fun t => t.c3, fun t x k => N16.rec (motive := fun _ => RE) (fun c0 c1 c2 _c3 c4 c5 c6 c7 c8 c9 c10 c11 c12 c13 c14 c15 => k (N16.mk c0 c1 c2 (some x) c4 c5 c6 c7 c8 c9 c10 c11 c12 c13 c14 c15)) t⟩,
    ⟨fun t => t.c4, fun t x k => N16.rec (motive := fun _ => RE) (fun c0 c1 c2 c3 _c4 c5 c6 c7 c8 c9 c10 c11 c12 c13 c14 c15 => k (N16.mk c0 c1 c2 c3 (some x) c5 c6 c7 c8 c9 c10 c11 c12 c13 c14 c15)) t⟩,
    ⟨fun t => t.c5, fun t x k => N16.rec (motive := fun _ => RE) (fun c0 c1 c2 c3 c4 _c5 c6 c7 c8 c9 c10 c11 c12 c13 c14 c15 => k (N16.mk c0 c1 c2 c3 c4 (some x) c6 c7 c8 c9 c10 c11 c12 c13 c14 c15)) t⟩,
    ⟨fun t => t.c6, fun t x k => N16.rec (motive := fun _ => RE) (fun c0 c1 c2 c3 c4 c5 _c6 c7 c8 c9 c10 c11 c12 c13 c14 c15 => k (N16.mk c0 c1 c2 c3 c4 c5 (some x) c7 c8 c9 c10 c11 c12 c13 c14 c15)) t⟩,
    ⟨fun t => t.c7, fun t x k => N16.rec (motive := fun _ => RE) (fun c0 c1 c2 c3 c4 c5 c6 _c7 c8 c9 c10 c11 c12 c13 c14 c15 => k (N16.mk c0 c1 c2 c3 c4 c5 c6 (some x) c8 c9 c10 c11 c12 c13 c14 c15)) t⟩,
    ⟨fun t => t.c8, fun t x k => N16.rec (motive := fun _ => RE) (fun c0 c1 c2 c3 c4 c5 c6 c7 _c8 c9 c10 c11 c12 c13 c14 c15 => k (N16.mk c0 c1 c2 c3 c4 c5 c6 c7 (some x) c9 c10 c11 c12 c13 c14 c15)) t⟩,
    ⟨fun t => t.c9, fun t x k => N16.rec (motive := fun _ => RE) (fun c0 c1 c2 c3 c4 c5 c6 c7 c8 _c9 c10 c11 c12 c13 c14 c15 => k (N16.mk c0 c1 c2 c3 c4 c5 c6 c7 c8 (some x) c10 c11 c12 c13 c14 c15)) t⟩,
    ⟨fun t => t.c10, fun t x k => N16.rec (motive := fun _ => RE) (fun c0 c1 c2 c3 c4 c5 c6 c7 c8 c9 _c10 c11 c12 c13 c14 c15 => k (N16.mk c0 c1 c2 c3 c4 c5 c6 c7 c8 c9 (some x) c11 c12 c13 c14 c15)) t⟩,
    ⟨fun t => t.c11, fun t x k => N16.rec (motive := fun _ => RE) (fun c0 c1 c2 c3 c4 c5 c6 c7 c8 c9 c10 _c11 c12 c13 c14 c15 => k (N16.mk c0 c1 c2 c3 c4 c5 c6 c7 c8 c9 c10 (some x) c12 c13 c14 c15)) t⟩,
    ⟨fun t => t.c12, fun t x k => N16.rec (motive := fun _ => RE) (fun c0 c1 c2 c3 c4 c5 c6 c7 c8 c9 c10 c11 _c12 c13 c14 c15 => k (N16.mk c0 c1 c2 c3 c4 c5 c6 c7 c8 c9 c10 c11 (some x) c13 c14 c15)) t⟩,
    ⟨fun t => t.c13, fun t x k => N16.rec (motive := fun _ => RE) (fun c0 c1 c2 c3 c4 c5 c6 c7 c8 c9 c10 c11 c12 _c13 c14 c15 => k (N16.mk c0 c1 c2 c3 c4 c5 c6 c7 c8 c9 c10 c11 c12 (some x) c14 c15)) t⟩,
    ⟨fun t => t.c14, fun t x k => N16.rec (motive := fun _ => RE) (fun c0 c1 c2 c3 c4 c5 c6 c7 c8 c9 c10 c11 c12 c13 _c14 c15 => k (N16.mk c0 c1 c2 c3 c4 c5 c6 c7 c8 c9 c10 c11 c12 c13 (some x) c15)) t⟩,
    ⟨fun t => t.c15, fun t x k => N16.rec (motive := fun _ => RE) (fun c0 c1 c2 c3 c4 c5 c6 c7 c8 c9 c10 c11 c12 c13 c14 _c15 => k (N16.mk c0 c1 c2 c3 c4 c5 c6 c7 c8 c9 c10 c11 c12 c13 c14 (some x))) t⟩]
noncomputable def dDaH (i : Nat) : DaH := lDaH.getD i DaH.no
theorem dDaH_g : ∀ i, i < 16 → ∀ t, (dDaH i).g t = N16.get (dg i) t
  | 0, _, _ | 1, _, _ | 2, _, _ | 3, _, _ | 4, _, _ | 5, _, _ | 6, _, _ | 7, _, _ | 8, _, _ | 9, _, _ | 10, _, _ | 11, _, _ | 12, _, _ | 13, _, _ | 14, _, _ | 15, _, _ => rfl
  | n + 16, h, _ => absurd h (by omega)
theorem dDaH_s : ∀ i, i < 16 → ∀ t x k, (dDaH i).s t x k = N16.setK (dg i) t (some x) k
  | 0, _, _, _, _ | 1, _, _, _, _ | 2, _, _, _, _ | 3, _, _, _, _ | 4, _, _, _, _ | 5, _, _, _, _ | 6, _, _, _, _ | 7, _, _, _, _ | 8, _, _, _, _ | 9, _, _, _, _ | 10, _, _, _, _ | 11, _, _, _, _ | 12, _, _, _, _ | 13, _, _, _, _ | 14, _, _, _, _ | 15, _, _, _, _ => rfl
  | n + 16, h, _, _, _ => absurd h (by omega)
structure DbH where
  g : N16 (Option (N16 (Option AObj))) → Option (N16 (Option AObj))
  s : N16 (Option (N16 (Option AObj))) → (N16 (Option AObj)) → (N16 (Option (N16 (Option AObj))) → RE) → RE
def DbH.no : DbH := ⟨fun _ => none, fun _ _ _ => none⟩
noncomputable def lDbH : List DbH := [
    ⟨fun t => t.c0, fun t x k => N16.rec (motive := fun _ => RE) (fun _c0 c1 c2 c3 c4 c5 c6 c7 c8 c9 c10 c11 c12 c13 c14 c15 => k (N16.mk (some x) c1 c2 c3 c4 c5 c6 c7 c8 c9 c10 c11 c12 c13 c14 c15)) t⟩,
    ⟨fun t => t.c1, fun t x k => N16.rec (motive := fun _ => RE) (fun c0 _c1 c2 c3 c4 c5 c6 c7 c8 c9 c10 c11 c12 c13 c14 c15 => k (N16.mk c0 (some x) c2 c3 c4 c5 c6 c7 c8 c9 c10 c11 c12 c13 c14 c15)) t⟩,
    ⟨fun t => t.c2, fun t x k => N16.rec (motive := fun _ => RE) (fun c0 c1 _c2 c3 c4 c5 c6 c7 c8 c9 c10 c11 c12 c13 c14 c15 => k (N16.mk c0 c1 (some x) c3 c4 c5 c6 c7 c8 c9 c10 c11 c12 c13 c14 c15)) t⟩,
    ⟨fun t => t.c3, fun t x k => N16.rec (motive := fun _ => RE) (fun c0 c1 c2 _c3 c4 c5 c6 c7 c8 c9 c10 c11 c12 c13 c14 c15 => k (N16.mk c0 c1 c2 (some x) c4 c5 c6 c7 c8 c9 c10 c11 c12 c13 c14 c15)) t⟩,
    ⟨fun t => t.c4, fun t x k => N16.rec (motive := fun _ => RE) (fun c0 c1 c2 c3 _c4 c5 c6 c7 c8 c9 c10 c11 c12 c13 c14 c15 => k (N16.mk c0 c1 c2 c3 (some x) c5 c6 c7 c8 c9 c10 c11 c12 c13 c14 c15)) t⟩,
    ⟨fun t => t.c5, fun t x k => N16.rec (motive := fun _ => RE) (fun c0 c1 c2 c3 c4 _c5 c6 c7 c8 c9 c10 c11 c12 c13 c14 c15 => k (N16.mk c0 c1 c2 c3 c4 (some x) c6 c7 c8 c9 c10 c11 c12 c13 c14 c15)) t⟩,
    ⟨fun t => t.c6, fun t x k => N16.rec (motive := fun _ => RE) (fun c0 c1 c2 c3 c4 c5 _c6 c7 c8 c9 c10 c11 c12 c13 c14 c15 => k (N16.mk c0 c1 c2 c3 c4 c5 (some x) c7 c8 c9 c10 c11 c12 c13 c14 c15)) t⟩,
    ⟨fun t => t.c7, fun t x k => N16.rec (motive := fun _ => RE) (fun c0 c1 c2 c3 c4 c5 c6 _c7 c8 c9 c10 c11 c12 c13 c14 c15 => k (N16.mk c0 c1 c2 c3 c4 c5 c6 (some x) c8 c9 c10 c11 c12 c13 c14 c15)) t⟩,
    ⟨fun t => t.c8, fun t x k => N16.rec (motive := fun _ => RE) (fun c0 c1 c2 c3 c4 c5 c6 c7 _c8 c9 c10 c11 c12 c13 c14 c15 => k (N16.mk c0 c1 c2 c3 c4 c5 c6 c7 (some x) c9 c10 c11 c12 c13 c14 c15)) t⟩,
    ⟨fun t => t.c9, fun t x k => N16.rec (motive := fun _ => RE) (fun c0 c1 c2 c3 c4 c5 c6 c7 c8 _c9 c10 c11 c12 c13 c14 c15 => k (N16.mk c0 c1 c2 c3 c4 c5 c6 c7 c8 (some x) c10 c11 c12 c13 c14 c15)) t⟩,
    ⟨fun t => t.c10, fun t x k => N16.rec (motive := fun _ => RE) (fun c0 c1 c2 c3 c4 c5 c6 c7 c8 c9 _c10 c11 c12 c13 c14 c15 => k (N16.mk c0 c1 c2 c3 c4 c5 c6 c7 c8 c9 (some x) c11 c12 c13 c14 c15)) t⟩,
    ⟨fun t => t.c11, fun t x k => N16.rec (motive := fun _ => RE) (fun c0 c1 c2 c3 c4 c5 c6 c7 c8 c9 c10 _c11 c12 c13 c14 c15 => k (N16.mk c0 c1 c2 c3 c4 c5 c6 c7 c8 c9 c10 (some x) c12 c13 c14 c15)) t⟩,
    ⟨fun t => t.c12, fun t x k => N16.rec (motive := fun _ => RE) (fun c0 c1 c2 c3 c4 c5 c6 c7 c8 c9 c10 c11 _c12 c13 c14 c15 => k (N16.mk c0 c1 c2 c3 c4 c5 c6 c7 c8 c9 c10 c11 (some x) c13 c14 c15)) t⟩,
    ⟨fun t => t.c13, fun t x k => N16.rec (motive := fun _ => RE) (fun c0 c1 c2 c3 c4 c5 c6 c7 c8 c9 c10 c11 c12 _c13 c14 c15 => k (N16.mk c0 c1 c2 c3 c4 c5 c6 c7 c8 c9 c10 c11 c12 (some x) c14 c15)) t⟩,
    ⟨fun t => t.c14, fun t x k => N16.rec (motive := fun _ => RE) (fun c0 c1 c2 c3 c4 c5 c6 c7 c8 c9 c10 c11 c12 c13 _c14 c15 => k (N16.mk c0 c1 c2 c3 c4 c5 c6 c7 c8 c9 c10 c11 c12 c13 (some x) c15)) t⟩,
    ⟨fun t => t.c15, fun t x k => N16.rec (motive := fun _ => RE) (fun c0 c1 c2 c3 c4 c5 c6 c7 c8 c9 c10 c11 c12 c13 c14 _c15 => k (N16.mk c0 c1 c2 c3 c4 c5 c6 c7 c8 c9 c10 c11 c12 c13 c14 (some x))) t⟩]
noncomputable def dDbH (i : Nat) : DbH := lDbH.getD i DbH.no
theorem dDbH_g : ∀ i, i < 16 → ∀ t, (dDbH i).g t = N16.get (dg i) t
  | 0, _, _ | 1, _, _ | 2, _, _ | 3, _, _ | 4, _, _ | 5, _, _ | 6, _, _ | 7, _, _ | 8, _, _ | 9, _, _ | 10, _, _ | 11, _, _ | 12, _, _ | 13, _, _ | 14, _, _ | 15, _, _ => rfl
  | n + 16, h, _ => absurd h (by omega)
theorem dDbH_s : ∀ i, i < 16 → ∀ t x k, (dDbH i).s t x k = N16.setK (dg i) t (some x) k
  | 0, _, _, _, _ | 1, _, _, _, _ | 2, _, _, _, _ | 3, _, _, _, _ | 4, _, _, _, _ | 5, _, _, _, _ | 6, _, _, _, _ | 7, _, _, _, _ | 8, _, _, _, _ | 9, _, _, _, _ | 10, _, _, _, _ | 11, _, _, _, _ | 12, _, _, _, _ | 13, _, _, _, _ | 14, _, _, _, _ | 15, _, _, _, _ => rfl
  | n + 16, h, _, _, _ => absurd h (by omega)
structure DcH where
  g : N16 (Option (A2 AObj)) → Option (A2 AObj)
  s : N16 (Option (A2 AObj)) → (A2 AObj) → (N16 (Option (A2 AObj)) → RE) → RE
def DcH.no : DcH := ⟨fun _ => none, fun _ _ _ => none⟩
noncomputable def lDcH : List DcH := [
    ⟨fun t => t.c0, fun t x k => N16.rec (motive := fun _ => RE) (fun _c0 c1 c2 c3 c4 c5 c6 c7 c8 c9 c10 c11 c12 c13 c14 c15 => k (N16.mk (some x) c1 c2 c3 c4 c5 c6 c7 c8 c9 c10 c11 c12 c13 c14 c15)) t⟩,
    ⟨fun t => t.c1, fun t x k => N16.rec (motive := fun _ => RE) (fun c0 _c1 c2 c3 c4 c5 c6 c7 c8 c9 c10 c11 c12 c13 c14 c15 => k (N16.mk c0 (some x) c2 c3 c4 c5 c6 c7 c8 c9 c10 c11 c12 c13 c14 c15)) t⟩,
    ⟨fun t => t.c2, fun t x k => N16.rec (motive := fun _ => RE) (fun c0 c1 _c2 c3 c4 c5 c6 c7 c8 c9 c10 c11 c12 c13 c14 c15 => k (N16.mk c0 c1 (some x) c3 c4 c5 c6 c7 c8 c9 c10 c11 c12 c13 c14 c15)) t⟩,
    ⟨fun t => t.c3, fun t x k => N16.rec (motive := fun _ => RE) (fun c0 c1 c2 _c3 c4 c5 c6 c7 c8 c9 c10 c11 c12 c13 c14 c15 => k (N16.mk c0 c1 c2 (some x) c4 c5 c6 c7 c8 c9 c10 c11 c12 c13 c14 c15)) t⟩,
    ⟨fun t => t.c4, fun t x k => N16.rec (motive := fun _ => RE) (fun c0 c1 c2 c3 _c4 c5 c6 c7 c8 c9 c10 c11 c12 c13 c14 c15 => k (N16.mk c0 c1 c2 c3 (some x) c5 c6 c7 c8 c9 c10 c11 c12 c13 c14 c15)) t⟩,
    ⟨fun t => t.c5, fun t x k => N16.rec (motive := fun _ => RE) (fun c0 c1 c2 c3 c4 _c5 c6 c7 c8 c9 c10 c11 c12 c13 c14 c15 => k (N16.mk c0 c1 c2 c3 c4 (some x) c6 c7 c8 c9 c10 c11 c12 c13 c14 c15)) t⟩,
    ⟨fun t => t.c6, fun t x k => N16.rec (motive := fun _ => RE) (fun c0 c1 c2 c3 c4 c5 _c6 c7 c8 c9 c10 c11 c12 c13 c14 c15 => k (N16.mk c0 c1 c2 c3 c4 c5 (some x) c7 c8 c9 c10 c11 c12 c13 c14 c15)) t⟩,
    ⟨fun t => t.c7, fun t x k => N16.rec (motive := fun _ => RE) (fun c0 c1 c2 c3 c4 c5 c6 _c7 c8 c9 c10 c11 c12 c13 c14 c15 => k (N16.mk c0 c1 c2 c3 c4 c5 c6 (some x) c8 c9 c10 c11 c12 c13 c14 c15)) t⟩,
    ⟨fun t => t.c8, fun t x k => N16.rec (motive := fun _ => RE) (fun c0 c1 c2 c3 c4 c5 c6 c7 _c8 c9 c10 c11 c12 c13 c14 c15 => k (N16.mk c0 c1 c2 c3 c4 c5 c6 c7 (some x) c9 c10 c11 c12 c13 c14 c15)) t⟩,
    ⟨fun t => t.c9, fun t x k => N16.rec (motive := fun _ => RE) (fun c0 c1 c2 c3 c4 c5 c6 c7 c8 _c9 c10 c11 c12 c13 c14 c15 => k (N16.mk c0 c1 c2 c3 c4 c5 c6 c7 c8 (some x) c10 c11 c12 c13 c14 c15)) t⟩,
    ⟨fun t => t.c10, fun t x k => N16.rec (motive := fun _ => RE) (fun c0 c1 c2 c3 c4 c5 c6 c7 c8 c9 _c10 c11 c12 c13 c14 c15 => k (N16.mk c0 c1 c2 c3 c4 c5 c6 c7 c8 c9 (some x) c11 c12 c13 c14 c15)) t⟩,
    ⟨fun t => t.c11, fun t x k => N16.rec (motive := fun _ => RE) (fun c0 c1 c2 c3 c4 c5 c6 c7 c8 c9 c10 _c11 c12 c13 c14 c15 => k (N16.mk c0 c1 c2 c3 c4 c5 c6 c7 c8 c9 c10 (some x) c12 c13 c14 c15)) t⟩,
    ⟨fun t => t.c12, fun t x k => N16.rec (motive := fun _ => RE) (fun c0 c1 c2 c3 c4 c5 c6 c7 c8 c9 c10 c11 _c12 c13 c14 c15 => k (N16.mk c0 c1 c2 c3 c4 c5 c6 c7 c8 c9 c10 c11 (some x) c13 c14 c15)) t⟩,
    ⟨fun t => t.c13, fun t x k => N16.rec (motive := fun _ => RE) (fun c0 c1 c2 c3 c4 c5 c6 c7 c8 c9 c10 c11 c12 _c13 c14 c15 => k (N16.mk c0 c1 c2 c3 c4 c5 c6 c7 c8 c9 c10 c11 c12 (some x) c14 c15)) t⟩,
    ⟨fun t => t.c14, fun t x k => N16.rec (motive := fun _ => RE) (fun c0 c1 c2 c3 c4 c5 c6 c7 c8 c9 c10 c11 c12 c13 _c14 c15 => k (N16.mk c0 c1 c2 c3 c4 c5 c6 c7 c8 c9 c10 c11 c12 c13 (some x) c15)) t⟩,
    ⟨fun t => t.c15, fun t x k => N16.rec (motive := fun _ => RE) (fun c0 c1 c2 c3 c4 c5 c6 c7 c8 c9 c10 c11 c12 c13 c14 _c15 => k (N16.mk c0 c1 c2 c3 c4 c5 c6 c7 c8 c9 c10 c11 c12 c13 c14 (some x))) t⟩]
noncomputable def dDcH (i : Nat) : DcH := lDcH.getD i DcH.no
theorem dDcH_g : ∀ i, i < 16 → ∀ t, (dDcH i).g t = N16.get (dg i) t
  | 0, _, _ | 1, _, _ | 2, _, _ | 3, _, _ | 4, _, _ | 5, _, _ | 6, _, _ | 7, _, _ | 8, _, _ | 9, _, _ | 10, _, _ | 11, _, _ | 12, _, _ | 13, _, _ | 14, _, _ | 15, _, _ => rfl
  | n + 16, h, _ => absurd h (by omega)
theorem dDcH_s : ∀ i, i < 16 → ∀ t x k, (dDcH i).s t x k = N16.setK (dg i) t (some x) k
  | 0, _, _, _, _ | 1, _, _, _, _ | 2, _, _, _, _ | 3, _, _, _, _ | 4, _, _, _, _ | 5, _, _, _, _ | 6, _, _, _, _ | 7, _, _, _, _ | 8, _, _, _, _ | 9, _, _, _, _ | 10, _, _, _, _ | 11, _, _, _, _ | 12, _, _, _, _ | 13, _, _, _, _ | 14, _, _, _, _ | 15, _, _, _, _ => rfl
  | n + 16, h, _, _, _ => absurd h (by omega)
structure DdH where
  g : N16 (Option (N16 (Option (A2 AObj)))) → Option (N16 (Option (A2 AObj)))
  s : N16 (Option (N16 (Option (A2 AObj)))) → (N16 (Option (A2 AObj))) → (N16 (Option (N16 (Option (A2 AObj)))) → RE) → RE
def DdH.no : DdH := ⟨fun _ => none, fun _ _ _ => none⟩
noncomputable def lDdH : List DdH := [
    ⟨fun t => t.c0, fun t x k => N16.rec (motive := fun _ => RE) (fun _c0 c1 c2 c3 c4 c5 c6 c7 c8 c9 c10 c11 c12 c13 c14 c15 => k (N16.mk (some x) c1 c2 c3 c4 c5 c6 c7 c8 c9 c10 c11 c12 c13 c14 c15)) t⟩,
    ⟨fun t => t.c1, fun t x k => N16.rec (motive := fun _ => RE) (fun c0 _c1 c2 c3 c4 c5 c6 c7 c8 c9 c10 c11 c12 c13 c14 c15 => k (N16.mk c0 (some x) c2 c3 c4 c5 c6 c7 c8 c9 c10 c11 c12 c13 c14 c15)) t⟩,
    ⟨fun t => t.c2, fun t x k => N16.rec (motive := fun _ => RE) (fun c0 c1 _c2 c3 c4 c5 c6 c7 c8 c9 c10 c11 c12 c13 c14 c15 => k (N16.mk c0 c1 (some x) c3 c4 c5 c6 c7 c8 c9 c10 c11 c12 c13 c14 c15)) t⟩,
    ⟨fun t => t.c3, fun t x k => N16.rec (motive := fun _ => RE) (fun c0 c1 c2 _c3 c4 c5 c6 c7 c8 c9 c10 c11 c12 c13 c14 c15 => k (N16.mk c0 c1 c2 (some x) c4 c5 c6 c7 c8 c9 c10 c11 c12 c13 c14 c15)) t⟩,
    ⟨fun t => t.c4, fun t x k => N16.rec (motive := fun _ => RE) (fun c0 c1 c2 c3 _c4 c5 c6 c7 c8 c9 c10 c11 c12 c13 c14 c15 => k (N16.mk c0 c1 c2 c3 (some x) c5 c6 c7 c8 c9 c10 c11 c12 c13 c14 c15)) t⟩,
    ⟨fun t => t.c5, fun t x k => N16.rec (motive := fun _ => RE) (fun c0 c1 c2 c3 c4 _c5 c6 c7 c8 c9 c10 c11 c12 c13 c14 c15 => k (N16.mk c0 c1 c2 c3 c4 (some x) c6 c7 c8 c9 c10 c11 c12 c13 c14 c15)) t⟩,
    ⟨fun t => t.c6, fun t x k => N16.rec (motive := fun _ => RE) (fun c0 c1 c2 c3 c4 c5 _c6 c7 c8 c9 c10 c11 c12 c13 c14 c15 => k (N16.mk c0 c1 c2 c3 c4 c5 (some x) c7 c8 c9 c10 c11 c12 c13 c14 c15)) t⟩,
    ⟨fun t => t.c7, fun t x k => N16.rec (motive := fun _ => RE) (fun c0 c1 c2 c3 c4 c5 c6 _c7 c8 c9 c10 c11 c12 c13 c14 c15 => k (N16.mk c0 c1 c2 c3 c4 c5 c6 (some x) c8 c9 c10 c11 c12 c13 c14 c15)) t⟩,
    ⟨fun t => t.c8, fun t x k => N16.rec (motive := fun _ => RE) (fun c0 c1 c2 c3 c4 c5 c6 c7 _c8 c9 c10 c11 c12 c13 c14 c15 => k (N16.mk c0 c1 c2 c3 c4 c5 c6 c7 (some x) c9 c10 c11 c12 c13 c14 c15)) t⟩,
    ⟨fun t => t.c9, fun t x k => N16.rec (motive := fun _ => RE) (fun c0 c1 c2 c3 c4 c5 c6 c7 c8 _c9 c10 c11 c12 c13 c14 c15 => k (N16.mk c0 c1 c2 c3 c4 c5 c6 c7 c8 (some x) c10 c11 c12 c13 c14 c15)) t⟩,
    ⟨fun t => t.c10, fun t x k => N16.rec (motive := fun _ => RE) (fun c0 c1 c2 c3 c4 c5 c6 c7 c8 c9 _c10 c11 c12 c13 c14 c15 => k (N16.mk c0 c1 c2 c3 c4 c5 c6 c7 c8 c9 (some x) c11 c12 c13 c14 c15)) t⟩,
    ⟨fun t => t.c11, fun t x k => N16.rec (motive := fun _ => RE) (fun c0 c1 c2 c3 c4 c5 c6 c7 c8 c9 c10 _c11 c12 c13 c14 c15 => k (N16.mk c0 c1 c2 c3 c4 c5 c6 c7 c8 c9 c10 (some x) c12 c13 c14 c15)) t⟩,
    ⟨fun t => t.c12, fun t x k => N16.rec (motive := fun _ => RE) (fun c0 c1 c2 c3 c4 c5 c6 c7 c8 c9 c10 c11 _c12 c13 c14 c15 => k (N16.mk c0 c1 c2 c3 c4 c5 c6 c7 c8 c9 c10 c11 (some x) c13 c14 c15)) t⟩,
    ⟨fun t => t.c13, fun t x k => N16.rec (motive := fun _ => RE) (fun c0 c1 c2 c3 c4 c5 c6 c7 c8 c9 c10 c11 c12 _c13 c14 c15 => k (N16.mk c0 c1 c2 c3 c4 c5 c6 c7 c8 c9 c10 c11 c12 (some x) c14 c15)) t⟩,
    ⟨fun t => t.c14, fun t x k => N16.rec (motive := fun _ => RE) (fun c0 c1 c2 c3 c4 c5 c6 c7 c8 c9 c10 c11 c12 c13 _c14 c15 => k (N16.mk c0 c1 c2 c3 c4 c5 c6 c7 c8 c9 c10 c11 c12 c13 (some x) c15)) t⟩,
    ⟨fun t => t.c15, fun t x k => N16.rec (motive := fun _ => RE) (fun c0 c1 c2 c3 c4 c5 c6 c7 c8 c9 c10 c11 c12 c13 c14 _c15 => k (N16.mk c0 c1 c2 c3 c4 c5 c6 c7 c8 c9 c10 c11 c12 c13 c14 (some x))) t⟩]
noncomputable def dDdH (i : Nat) : DdH := lDdH.getD i DdH.no
theorem dDdH_g : ∀ i, i < 16 → ∀ t, (dDdH i).g t = N16.get (dg i) t
  | 0, _, _ | 1, _, _ | 2, _, _ | 3, _, _ | 4, _, _ | 5, _, _ | 6, _, _ | 7, _, _ | 8, _, _ | 9, _, _ | 10, _, _ | 11, _, _ | 12, _, _ | 13, _, _ | 14, _, _ | 15, _, _ => rfl
  | n + 16, h, _ => absurd h (by omega)
theorem dDdH_s : ∀ i, i < 16 → ∀ t x k, (dDdH i).s t x k = N16.setK (dg i) t (some x) k
  | 0, _, _, _, _ | 1, _, _, _, _ | 2, _, _, _, _ | 3, _, _, _, _ | 4, _, _, _, _ | 5, _, _, _, _ | 6, _, _, _, _ | 7, _, _, _, _ | 8, _, _, _, _ | 9, _, _, _, _ | 10, _, _, _, _ | 11, _, _, _, _ | 12, _, _, _, _ | 13, _, _, _, _ | 14, _, _, _, _ | 15, _, _, _, _ => rfl
  | n + 16, h, _, _, _ => absurd h (by omega)
structure PaH where
  g : (A2 AObj) → Option AObj
  s : (A2 AObj) → AObj → ((A2 AObj) → RE) → RE
noncomputable def ePaH : (N16 (Option AObj)) := .mk none none none none none none none none none none none none none none none none
noncomputable def pPaH (a b : Nat) : PaH :=
  ⟨fun t => Option.rec (motive := fun _ => Option AObj) none (dDaH b).g ((dDbH a).g t),
   fun t x k => Option.rec (motive := fun _ => RE) ((dDaH b).s ePaH x fun s => (dDbH a).s t s k) (fun s => (dDaH b).s s x fun s => (dDbH a).s t s k) ((dDbH a).g t)⟩
theorem pPaH_g (a b : Nat) (ha : a < 16) (hb : b < 16) (t : (A2 AObj)) : (pPaH a b).g t = A2.get (dg a) (dg b) t := by
  show Option.rec (motive := fun _ => Option AObj) none (dDaH b).g ((dDbH a).g t) = _
  rw [dDbH_g a ha]
  unfold A2.get
  cases N16.get (dg a) t with
  | none => rfl
  | some s => exact dDaH_g b hb s
theorem pPaH_s (a b : Nat) (ha : a < 16) (hb : b < 16) (t : (A2 AObj)) (x : AObj) (k : (A2 AObj) → RE) : (pPaH a b).s t x k = k (A2.set (dg a) (dg b) t x) := by
  rw [← A2.setK_eq (dg a) (dg b) t x k]
  show Option.rec (motive := fun _ => RE) ((dDaH b).s ePaH x fun s => (dDbH a).s t s k) (fun s => (dDaH b).s s x fun s => (dDbH a).s t s k) ((dDbH a).g t) = _
  rw [dDbH_g a ha]
  unfold A2.setK
  cases N16.get (dg a) t with
  | none =>
    show (dDaH b).s ePaH x _ = N16.setK _ _ _ _
    rw [dDaH_s b hb]
    congr 1
    funext s
    exact dDbH_s a ha _ _ _
  | some s =>
    show (dDaH b).s s x _ = N16.setK _ _ _ _
    rw [dDaH_s b hb]
    congr 1
    funext s
    exact dDbH_s a ha _ _ _
structure PbH where
  g : (A4 AObj) → Option (A2 AObj)
  s : (A4 AObj) → (A2 AObj) → ((A4 AObj) → RE) → RE
noncomputable def ePbH : (N16 (Option (A2 AObj))) := .mk none none none none none none none none none none none none none none none none
noncomputable def pPbH (a b : Nat) : PbH :=
  ⟨fun t => Option.rec (motive := fun _ => Option (A2 AObj)) none (dDcH b).g ((dDdH a).g t),
   fun t x k => Option.rec (motive := fun _ => RE) ((dDcH b).s ePbH x fun s => (dDdH a).s t s k) (fun s => (dDcH b).s s x fun s => (dDdH a).s t s k) ((dDdH a).g t)⟩
theorem pPbH_g (a b : Nat) (ha : a < 16) (hb : b < 16) (t : (A4 AObj)) : (pPbH a b).g t = A2.get (dg a) (dg b) t := by
  show Option.rec (motive := fun _ => Option (A2 AObj)) none (dDcH b).g ((dDdH a).g t) = _
  rw [dDdH_g a ha]
  unfold A2.get
  cases N16.get (dg a) t with
  | none => rfl
  | some s => exact dDcH_g b hb s
theorem pPbH_s (a b : Nat) (ha : a < 16) (hb : b < 16) (t : (A4 AObj)) (x : (A2 AObj)) (k : (A4 AObj) → RE) : (pPbH a b).s t x k = k (A2.set (dg a) (dg b) t x) := by
  rw [← A2.setK_eq (dg a) (dg b) t x k]
  show Option.rec (motive := fun _ => RE) ((dDcH b).s ePbH x fun s => (dDdH a).s t s k) (fun s => (dDcH b).s s x fun s => (dDdH a).s t s k) ((dDdH a).g t) = _
  rw [dDdH_g a ha]
  unfold A2.setK
  cases N16.get (dg a) t with
  | none =>
    show (dDcH b).s ePbH x _ = N16.setK _ _ _ _
    rw [dDcH_s b hb]
    congr 1
    funext s
    exact dDdH_s a ha _ _ _
  | some s =>
    show (dDcH b).s s x _ = N16.setK _ _ _ _
    rw [dDcH_s b hb]
    congr 1
    funext s
    exact dDdH_s a ha _ _ _
structure AccH where
  g : Tr AObj → Option AObj
  s : Tr AObj → AObj → (Tr AObj → RE) → RE
noncomputable def eaH : A2 AObj := .mk none none none none none none none none none none none none none none none none
noncomputable def ebH : A4 AObj := .mk none none none none none none none none none none none none none none none none
noncomputable def bigH (pa : PaH) (pb : PbH) (m : A4 AObj) (x : AObj) (k : A4 AObj → RE) : RE :=
  Option.rec (motive := fun _ => RE) (pa.s eaH x fun s => pb.s m s k) (fun s => pa.s s x fun s => pb.s m s k) (pb.g m)
noncomputable def accH (n : Nat) : AccH :=
  Bool.rec (motive := fun _ => AccH)
    (Bool.rec (motive := fun _ => AccH) ⟨fun F => F.at n, fun F x k => F.putK n x k⟩
      ⟨fun F => Option.rec (motive := fun _ => Option AObj) none (fun m => Option.rec (motive := fun _ => Option AObj) none (pPaH (Nat.mod (Nat.div n 16) 16) (Nat.mod n 16)).g ((pPbH (Nat.div n 4096) (Nat.mod (Nat.div n 256) 16)).g m)) F.m,
       fun F x k => Option.rec (motive := fun _ => RE) (bigH (pPaH (Nat.mod (Nat.div n 16) 16) (Nat.mod n 16)) (pPbH (Nat.div n 4096) (Nat.mod (Nat.div n 256) 16)) ebH x fun m => k ⟨F.s, some m, F.b⟩)
         (fun m => bigH (pPaH (Nat.mod (Nat.div n 16) 16) (Nat.mod n 16)) (pPbH (Nat.div n 4096) (Nat.mod (Nat.div n 256) 16)) m x fun m => k ⟨F.s, some m, F.b⟩) F.m⟩ (Nat.blt n 65536))
    ⟨fun F => (pPaH (Nat.div n 16) (Nat.mod n 16)).g F.s, fun F x k => (pPaH (Nat.div n 16) (Nat.mod n 16)).s F.s x fun s => k ⟨s, F.m, F.b⟩⟩ (Nat.blt n 256)
theorem bigH_eq {a b c d : Nat} (ha : a < 16) (hb : b < 16) (hc : c < 16) (hd : d < 16) (m : A4 AObj) (x : AObj) (k : A4 AObj → RE) : bigH (pPaH c d) (pPbH a b) m x k = A4.setK (dg a) (dg b) (dg c) (dg d) m x k := by
  unfold bigH A4.setK
  rw [pPbH_g a b ha hb]
  cases A2.get (dg a) (dg b) m with
  | none =>
    show (pPaH c d).s eaH x _ = A2.setK _ _ _ _ _
    rw [pPaH_s c d hc hd, A2.setK_eq, pPbH_s a b ha hb, A2.setK_eq]; rfl
  | some s =>
    show (pPaH c d).s s x _ = A2.setK _ _ _ _ _
    rw [pPaH_s c d hc hd, A2.setK_eq, pPbH_s a b ha hb, A2.setK_eq]
theorem accH_g (n : Nat) (F : Tr AObj) : (accH n).g F = F.at n := by
  unfold accH
  rcases key_cases n with ⟨h, hk⟩ | ⟨h, h', hk⟩ | ⟨h, hk⟩
  · have hb : Nat.blt n 256 = true := by simpa using h
    rw [hb]
    show (pPaH (n / 16) (n % 16)).g F.s = Tr.getK (key n) F
    rw [hk, pPaH_g _ _ (by omega) (by omega)]
    obtain ⟨s, m, b⟩ := F; rfl
  · have hb : Nat.blt n 256 = false := by rw [Bool.eq_false_iff]; simp; omega
    have hb' : Nat.blt n 65536 = true := by simpa using h'
    rw [hb, hb']
    obtain ⟨s, m, b⟩ := F
    show Option.rec (motive := fun _ => Option AObj) none (fun m => Option.rec (motive := fun _ => Option AObj) none (pPaH (n / 16 % 16) (n % 16)).g ((pPbH (n / 4096) (n / 256 % 16)).g m)) m = Tr.getK (key n) ⟨s, m, b⟩
    rw [hk]
    cases m with
    | none => rfl
    | some m =>
      show Option.rec (motive := fun _ => Option AObj) none (pPaH (n / 16 % 16) (n % 16)).g ((pPbH (n / 4096) (n / 256 % 16)).g m) = A4.get _ _ _ _ m
      rw [pPbH_g _ _ (by omega) (by omega)]
      unfold A4.get
      cases A2.get (dg (n / 4096)) (dg (n / 256 % 16)) m with
      | none => rfl
      | some q => exact pPaH_g _ _ (by omega) (by omega) q
  · have hb : Nat.blt n 256 = false := by rw [Bool.eq_false_iff]; simp; omega
    have hb' : Nat.blt n 65536 = false := by rw [Bool.eq_false_iff]; simp; omega
    rw [hb, hb']
theorem accH_s (n : Nat) (F : Tr AObj) (x : AObj) (k : Tr AObj → RE) : (accH n).s F x k = k (F.put n x) := by
  rw [← Tr.putK_eq F n x k]
  unfold accH
  rcases key_cases n with ⟨h, hk⟩ | ⟨h, h', hk⟩ | ⟨h, hk⟩
  · have hb : Nat.blt n 256 = true := by simpa using h
    rw [hb]
    obtain ⟨s, m, b⟩ := F
    show (pPaH (n / 16) (n % 16)).s s x (fun s => k ⟨s, m, b⟩) = Tr.setKy (key n) ⟨s, m, b⟩ x k
    rw [hk, pPaH_s _ _ (by omega) (by omega), ← A2.setK_eq _ _ _ _ fun s => k ⟨s, m, b⟩]
    rfl
  · have hb : Nat.blt n 256 = false := by rw [Bool.eq_false_iff]; simp; omega
    have hb' : Nat.blt n 65536 = true := by simpa using h'
    rw [hb, hb']
    obtain ⟨s, m, b⟩ := F
    show Option.rec (motive := fun _ => RE) (bigH (pPaH (n / 16 % 16) (n % 16)) (pPbH (n / 4096) (n / 256 % 16)) ebH x fun m => k ⟨s, some m, b⟩)
         (fun m => bigH (pPaH (n / 16 % 16) (n % 16)) (pPbH (n / 4096) (n / 256 % 16)) m x fun m => k ⟨s, some m, b⟩) m = Tr.setKy (key n) ⟨s, m, b⟩ x k
    rw [hk]
    cases m with
    | none => exact bigH_eq (by omega) (by omega) (by omega) (by omega) _ _ _
    | some m => exact bigH_eq (by omega) (by omega) (by omega) (by omega) _ _ _
  · have hb : Nat.blt n 256 = false := by rw [Bool.eq_false_iff]; simp; omega
    have hb' : Nat.blt n 65536 = false := by rw [Bool.eq_false_iff]; simp; omega
    rw [hb, hb']
end Go.Abs
