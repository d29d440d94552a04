/- What the functions of error correction give, with open values. No condition. -/
import Derived.Test.YtkihpcjfhilgcaaGreatProg
import Derived.Test.YtkihpcjfhilgcaaGreatZ10
import Derived.Test.YtkihpcjfhilgcaaGreatZ11
import Derived.Test.YtkihpcjfhilgcaaGreatZ12
namespace Go.Abs
open Go.Proofs
variable {X : Ext0} {S : Sums} {L : Nat} {h : H}
def masksL : List AV := [.int .u64 (.ofNat (maskN 0)), .int .u64 (.ofNat (maskN 1)), .int .u64 (.ofNat (maskN 2)), .int .u64 (.ofNat (maskN 3)), .int .u64 (.ofNat (maskN 4)), .int .u64 (.ofNat (maskN 5))]
theorem masks_get {j : Nat} (hj : j < 6) : masksL[j]? = some (.int .u64 (.ofNat (maskN j))) := by
  have : j = 0 ∨ j = 1 ∨ j = 2 ∨ j = 3 ∨ j = 4 ∨ j = 5 := by omega
  rcases this with rfl | rfl | rfl | rfl | rfl | rfl <;> rfl
theorem maskN_lt (j : Nat) (hj : j < 6) : maskN j < 2 ^ 39 := by
  have : ∀ j : Fin 6, maskN j.val < 2 ^ 39 := by decide +kernel
  exact this ⟨j, hj⟩
noncomputable def X00 : Ext0 := fun _ => none
noncomputable def S00 : Sums := fun _ => none
noncomputable def isMasks : Option (AV × H) → Bool
  | some (v, _) => eqV 9 v (.agg masksL)
  | none => false
set_option maxRecDepth 100000 in
theorem masks_run : isMasks (callF Tryz.prog X00 S00 100 10 (.fn 80) [] H0) = true := by kernel_rfl
noncomputable def masksS : List AV → H → Option (AV × H) := fun args h => match args with
  | [] => some (.agg masksL, h)
  | _ => none
theorem ext_none : ExtSound Tryz.prog X00 := fun f x args h v h' hx => by cases hx
theorem sum_none : SumSound Tryz.prog S00 := fun f s hs => by cases hs
theorem follows_mixed : Tryz.prog.follows .mixedOrders = true := by kernel_rfl
theorem Ret.agg {ι : Io} {h h1 : H} {w w' : World} {vs : List AV} {e : Ending} (r : R ι h w) (hv : vs.all AV.bare = true) (ret : Ret ι0 H0 w (.agg vs) h1 e w') : Ret ι h w (.agg vs) h e w' := by
  cases e with
  | returned u =>
    obtain ⟨ι1, g1, g2, g3⟩ := ret
    obtain ⟨g4, g5⟩ := g3.same r
    refine ⟨ι, ?_, g4, g5⟩
    cases g1 with
    | agg h1 h2 =>
      refine .agg h1 fun i a u q1 q2 => (h2 i a u q1 q2).bare ?_
      rw [List.all_eq_true] at hv
      exact hv a (List.mem_of_getElem? q1)
  | _ => exact ret.elim
theorem masksS_sound {args : List AV} {h h' : H} {v : AV} (he : masksS args h = some (v, h')) {ι : Io} {w : World} {us : List Value} (r : R ι h w) (hv : VRs ι args us) : Calls Tryz.prog 80 us.toArray w (Ret ι h w v h') := by
  unfold masksS at he
  split at he
  · cases he
    obtain rfl := hv.isNil
    have h1 := masks_run
    unfold isMasks at h1
    split at h1
    · rename_i v1 h1' hc
      obtain rfl := eqV_eq 9 _ _ h1
      rw [callF_eq] at hc
      exact ((callA_sound ext_none sum_none follows_mixed 10).fn 80 [] H0 _ _ hc ι0 w [] (R.empty w) (.nil _)).mono fun e w' ret => ret.agg r rfl
    · cases h1
  · cases he
structure SOk (S : Sums) : Prop where
  masks : S 80 = some masksS
  none : ∀ f, f ≠ 80 → f ≠ 7 → S f = none
theorem check_spec {d : Nat} (hS : SOk S) (m : Nat) (h1 : 1 ≤ m) (h2 : m < 64) : CS Tryz.prog X S L (d + 1) 54 [.int .i64 (.ofNat m)] h (fun v h' => v = .bool (chk m) ∧ h = h') := by
  refine CS.of (rs := [.tmp 2]) (hS.none _ (by decide) (by decide)) Tryz.func54 rfl rfl ?_
  refine Gives.seq ?_
  refine Gives.region [.p 0] (by kernel_rfl) ?_
  refine RP.p rfl (op_assign rfl ?_)
  refine RP.nil ?_
  refine Gives.seq ?_
  refine Gives.region [.p 0, .p 1, .p 2, .p 3, .p 4, .p 5] (by kernel_rfl) ?_
  refine RP.p rfl (op_move (qT (by repeat (first | with_reducible (first | exact qS | assumption) | refine qN rfl ?_ | exact qO rfl))) ?_)
  refine RP.p rfl (op_move (qT (by repeat (first | with_reducible (first | exact qS | assumption) | refine qN rfl ?_ | exact qO rfl))) ?_)
  refine RP.p rfl (op_bin (qT (by repeat (first | with_reducible (first | exact qS | assumption) | refine qN rfl ?_ | exact qO rfl))) (show ev _ _ = some (.int .i64 (.ofNat 1)) from rfl) (bin_sub (by omega) (by have e1 : topK .i64 = 9223372036854775808 := rfl; have e2 : topK .u32 = 4294967296 := rfl; have e3 : topK .u64 = 18446744073709551616 := rfl; have e4 : topK .u8 = 256 := rfl; have e5 : topK .u16 = 65536 := rfl; omega)) ?_)
  refine RP.p rfl (op_bin (qT (by repeat (first | with_reducible (first | exact qS | assumption) | refine qN rfl ?_ | exact qO rfl))) (qT (by repeat (first | with_reducible (first | exact qS | assumption) | refine qN rfl ?_ | exact qO rfl))) (bin_and (by have e1 : topK .i64 = 9223372036854775808 := rfl; have e2 : topK .u32 = 4294967296 := rfl; have e3 : topK .u64 = 18446744073709551616 := rfl; have e4 : topK .u8 = 256 := rfl; have e5 : topK .u16 = 65536 := rfl; omega) (by have e1 : topK .i64 = 9223372036854775808 := rfl; have e2 : topK .u32 = 4294967296 := rfl; have e3 : topK .u64 = 18446744073709551616 := rfl; have e4 : topK .u8 = 256 := rfl; have e5 : topK .u16 = 65536 := rfl; omega)) ?_)
  refine RP.p rfl (op_bin (qT (by repeat (first | with_reducible (first | exact qS | assumption) | refine qN rfl ?_ | exact qO rfl))) (show ev _ _ = some (.int .i64 (.ofNat 0)) from rfl) bin_eqlN ?_)
  refine RP.p rfl (op_assign (qT (by repeat (first | with_reducible (first | exact qS | assumption) | refine qN rfl ?_ | exact qO rfl))) ?_)
  refine RP.nil ?_
  refine Gives.ret0 (RS.one (by repeat (first | with_reducible (first | exact qS | assumption) | refine qN rfl ?_ | exact qO rfl)) ⟨?_, rfl⟩)
  rfl
theorem ones_spec {d : Nat} (hS : SOk S) (x : Nat) (hx : x < 18446744073709551616) : CS Tryz.prog X S L (d + 1) 81 [.int .u64 (.ofNat x)] h (fun v h' => v = .int .i64 (.ofNat (oc64 x)) ∧ h = h') := by
  refine CS.of (rs := [.tmp 2]) (hS.none _ (by decide) (by decide)) Tryz.func81 rfl rfl ?_
  refine Gives.seq ?_
  refine Gives.region [.p 0] (by kernel_rfl) ?_
  refine RP.p rfl (op_assign (show ev _ _ = some (.int .i64 (.ofNat 0)) from rfl) ?_)
  refine RP.nil ?_
  refine Gives.seq ?_
  have b1 : x / 2 ^ 1 &&& 6148914691236517205 ≤ 6148914691236517205 := Nat.and_le_right
  have b2 : x &&& 6148914691236517205 ≤ 6148914691236517205 := Nat.and_le_right
  refine Gives.region [.p 0, .p 1, .p 2, .p 3, .p 4, .p 5, .p 6] (by kernel_rfl) ?_
  refine RP.p rfl (op_move (qT (by repeat (first | with_reducible (first | exact qS | assumption) | refine qN rfl ?_ | exact qO rfl))) ?_)
  refine RP.p rfl (op_bin (qT (by repeat (first | with_reducible (first | exact qS | assumption) | refine qN rfl ?_ | exact qO rfl))) (show ev _ _ = some (.int .u64 (.ofNat 1)) from rfl) (bin_shr (by show _ ≤ _; decide)) ?_)
  refine RP.p rfl (op_bin (qT (by repeat (first | with_reducible (first | exact qS | assumption) | refine qN rfl ?_ | exact qO rfl))) (show ev _ _ = some (.int .u64 (.ofNat 6148914691236517205)) from rfl) (bin_and (by have e1 : topK .i64 = 9223372036854775808 := rfl; have e2 : topK .u32 = 4294967296 := rfl; have e3 : topK .u64 = 18446744073709551616 := rfl; have e4 : topK .u8 = 256 := rfl; have e5 : topK .u16 = 65536 := rfl; omega) (by have e1 : topK .i64 = 9223372036854775808 := rfl; have e2 : topK .u32 = 4294967296 := rfl; have e3 : topK .u64 = 18446744073709551616 := rfl; have e4 : topK .u8 = 256 := rfl; have e5 : topK .u16 = 65536 := rfl; omega)) ?_)
  refine RP.p rfl (op_move (qT (by repeat (first | with_reducible (first | exact qS | assumption) | refine qN rfl ?_ | exact qO rfl))) ?_)
  refine RP.p rfl (op_bin (qT (by repeat (first | with_reducible (first | exact qS | assumption) | refine qN rfl ?_ | exact qO rfl))) (show ev _ _ = some (.int .u64 (.ofNat 6148914691236517205)) from rfl) (bin_and (by have e1 : topK .i64 = 9223372036854775808 := rfl; have e2 : topK .u32 = 4294967296 := rfl; have e3 : topK .u64 = 18446744073709551616 := rfl; have e4 : topK .u8 = 256 := rfl; have e5 : topK .u16 = 65536 := rfl; omega) (by have e1 : topK .i64 = 9223372036854775808 := rfl; have e2 : topK .u32 = 4294967296 := rfl; have e3 : topK .u64 = 18446744073709551616 := rfl; have e4 : topK .u8 = 256 := rfl; have e5 : topK .u16 = 65536 := rfl; omega)) ?_)
  refine RP.p rfl (op_bin (qT (by repeat (first | with_reducible (first | exact qS | assumption) | refine qN rfl ?_ | exact qO rfl))) (qT (by repeat (first | with_reducible (first | exact qS | assumption) | refine qN rfl ?_ | exact qO rfl))) (bin_add (by have e1 : topK .i64 = 9223372036854775808 := rfl; have e2 : topK .u32 = 4294967296 := rfl; have e3 : topK .u64 = 18446744073709551616 := rfl; have e4 : topK .u8 = 256 := rfl; have e5 : topK .u16 = 65536 := rfl; omega)) ?_)
  refine RP.p rfl (op_assign (qT (by repeat (first | with_reducible (first | exact qS | assumption) | refine qN rfl ?_ | exact qO rfl))) ?_)
  refine RP.nil ?_
  have l1 : (x / 2 ^ 1 &&& 6148914691236517205) + (x &&& 6148914691236517205) ≤ 12297829382473034410 := by omega
  generalize e1 : (x / 2 ^ 1 &&& 6148914691236517205) + (x &&& 6148914691236517205) = y1 at l1 ⊢
  refine Gives.seq ?_
  have b3 : y1 / 2 ^ 2 &&& 3689348814741910323 ≤ 3689348814741910323 := Nat.and_le_right
  have b4 : y1 &&& 3689348814741910323 ≤ 3689348814741910323 := Nat.and_le_right
  refine Gives.region [.p 0, .p 1, .p 2, .p 3, .p 4, .p 5, .p 6] (by kernel_rfl) ?_
  refine RP.p rfl (op_move (qT (by repeat (first | with_reducible (first | exact qS | assumption) | refine qN rfl ?_ | exact qO rfl))) ?_)
  refine RP.p rfl (op_bin (qT (by repeat (first | with_reducible (first | exact qS | assumption) | refine qN rfl ?_ | exact qO rfl))) (show ev _ _ = some (.int .u64 (.ofNat 2)) from rfl) (bin_shr (by show _ ≤ _; decide)) ?_)
  refine RP.p rfl (op_bin (qT (by repeat (first | with_reducible (first | exact qS | assumption) | refine qN rfl ?_ | exact qO rfl))) (show ev _ _ = some (.int .u64 (.ofNat 3689348814741910323)) from rfl) (bin_and (by have e1 : topK .i64 = 9223372036854775808 := rfl; have e2 : topK .u32 = 4294967296 := rfl; have e3 : topK .u64 = 18446744073709551616 := rfl; have e4 : topK .u8 = 256 := rfl; have e5 : topK .u16 = 65536 := rfl; omega) (by have e1 : topK .i64 = 9223372036854775808 := rfl; have e2 : topK .u32 = 4294967296 := rfl; have e3 : topK .u64 = 18446744073709551616 := rfl; have e4 : topK .u8 = 256 := rfl; have e5 : topK .u16 = 65536 := rfl; omega)) ?_)
  refine RP.p rfl (op_move (qT (by repeat (first | with_reducible (first | exact qS | assumption) | refine qN rfl ?_ | exact qO rfl))) ?_)
  refine RP.p rfl (op_bin (qT (by repeat (first | with_reducible (first | exact qS | assumption) | refine qN rfl ?_ | exact qO rfl))) (show ev _ _ = some (.int .u64 (.ofNat 3689348814741910323)) from rfl) (bin_and (by have e1 : topK .i64 = 9223372036854775808 := rfl; have e2 : topK .u32 = 4294967296 := rfl; have e3 : topK .u64 = 18446744073709551616 := rfl; have e4 : topK .u8 = 256 := rfl; have e5 : topK .u16 = 65536 := rfl; omega) (by have e1 : topK .i64 = 9223372036854775808 := rfl; have e2 : topK .u32 = 4294967296 := rfl; have e3 : topK .u64 = 18446744073709551616 := rfl; have e4 : topK .u8 = 256 := rfl; have e5 : topK .u16 = 65536 := rfl; omega)) ?_)
  refine RP.p rfl (op_bin (qT (by repeat (first | with_reducible (first | exact qS | assumption) | refine qN rfl ?_ | exact qO rfl))) (qT (by repeat (first | with_reducible (first | exact qS | assumption) | refine qN rfl ?_ | exact qO rfl))) (bin_add (by have e1 : topK .i64 = 9223372036854775808 := rfl; have e2 : topK .u32 = 4294967296 := rfl; have e3 : topK .u64 = 18446744073709551616 := rfl; have e4 : topK .u8 = 256 := rfl; have e5 : topK .u16 = 65536 := rfl; omega)) ?_)
  refine RP.p rfl (op_assign (qT (by repeat (first | with_reducible (first | exact qS | assumption) | refine qN rfl ?_ | exact qO rfl))) ?_)
  refine RP.nil ?_
  have l2 : (y1 / 2 ^ 2 &&& 3689348814741910323) + (y1 &&& 3689348814741910323) ≤ 7378697629483820646 := by omega
  generalize e2 : (y1 / 2 ^ 2 &&& 3689348814741910323) + (y1 &&& 3689348814741910323) = y2 at l2 ⊢
  refine Gives.seq ?_
  have b5 : y2 / 2 ^ 4 + y2 &&& 1085102592571150095 ≤ 1085102592571150095 := Nat.and_le_right
  refine Gives.region [.p 0, .p 1, .p 2, .p 3, .p 4, .p 5] (by kernel_rfl) ?_
  refine RP.p rfl (op_move (qT (by repeat (first | with_reducible (first | exact qS | assumption) | refine qN rfl ?_ | exact qO rfl))) ?_)
  refine RP.p rfl (op_bin (qT (by repeat (first | with_reducible (first | exact qS | assumption) | refine qN rfl ?_ | exact qO rfl))) (show ev _ _ = some (.int .u64 (.ofNat 4)) from rfl) (bin_shr (by show _ ≤ _; decide)) ?_)
  refine RP.p rfl (op_move (qT (by repeat (first | with_reducible (first | exact qS | assumption) | refine qN rfl ?_ | exact qO rfl))) ?_)
  refine RP.p rfl (op_bin (qT (by repeat (first | with_reducible (first | exact qS | assumption) | refine qN rfl ?_ | exact qO rfl))) (qT (by repeat (first | with_reducible (first | exact qS | assumption) | refine qN rfl ?_ | exact qO rfl))) (bin_add (by have e1 : topK .i64 = 9223372036854775808 := rfl; have e2 : topK .u32 = 4294967296 := rfl; have e3 : topK .u64 = 18446744073709551616 := rfl; have e4 : topK .u8 = 256 := rfl; have e5 : topK .u16 = 65536 := rfl; omega)) ?_)
  refine RP.p rfl (op_bin (qT (by repeat (first | with_reducible (first | exact qS | assumption) | refine qN rfl ?_ | exact qO rfl))) (show ev _ _ = some (.int .u64 (.ofNat 1085102592571150095)) from rfl) (bin_and (by have e1 : topK .i64 = 9223372036854775808 := rfl; have e2 : topK .u32 = 4294967296 := rfl; have e3 : topK .u64 = 18446744073709551616 := rfl; have e4 : topK .u8 = 256 := rfl; have e5 : topK .u16 = 65536 := rfl; omega) (by have e1 : topK .i64 = 9223372036854775808 := rfl; have e2 : topK .u32 = 4294967296 := rfl; have e3 : topK .u64 = 18446744073709551616 := rfl; have e4 : topK .u8 = 256 := rfl; have e5 : topK .u16 = 65536 := rfl; omega)) ?_)
  refine RP.p rfl (op_assign (qT (by repeat (first | with_reducible (first | exact qS | assumption) | refine qN rfl ?_ | exact qO rfl))) ?_)
  refine RP.nil ?_
  generalize e3 : y2 / 2 ^ 4 + y2 &&& 1085102592571150095 = y3 at b5 ⊢
  refine Gives.seq ?_
  refine Gives.region [.p 0, .p 1, .p 2, .p 3, .p 4] (by kernel_rfl) ?_
  refine RP.p rfl (op_move (qT (by repeat (first | with_reducible (first | exact qS | assumption) | refine qN rfl ?_ | exact qO rfl))) ?_)
  refine RP.p rfl (op_move (qT (by repeat (first | with_reducible (first | exact qS | assumption) | refine qN rfl ?_ | exact qO rfl))) ?_)
  refine RP.p rfl (op_bin (qT (by repeat (first | with_reducible (first | exact qS | assumption) | refine qN rfl ?_ | exact qO rfl))) (show ev _ _ = some (.int .u64 (.ofNat 8)) from rfl) (bin_shr (by show _ ≤ _; decide)) ?_)
  refine RP.p rfl (op_bin (qT (by repeat (first | with_reducible (first | exact qS | assumption) | refine qN rfl ?_ | exact qO rfl))) (qT (by repeat (first | with_reducible (first | exact qS | assumption) | refine qN rfl ?_ | exact qO rfl))) (bin_add (by have e1 : topK .i64 = 9223372036854775808 := rfl; have e2 : topK .u32 = 4294967296 := rfl; have e3 : topK .u64 = 18446744073709551616 := rfl; have e4 : topK .u8 = 256 := rfl; have e5 : topK .u16 = 65536 := rfl; omega)) ?_)
  refine RP.p rfl (op_assign (qT (by repeat (first | with_reducible (first | exact qS | assumption) | refine qN rfl ?_ | exact qO rfl))) ?_)
  refine RP.nil ?_
  have l4 : y3 + y3 / 2 ^ 8 ≤ 1200000000000000000 := by omega
  generalize e4 : y3 + y3 / 2 ^ 8 = y4 at l4 ⊢
  refine Gives.seq ?_
  refine Gives.region [.p 0, .p 1, .p 2, .p 3, .p 4] (by kernel_rfl) ?_
  refine RP.p rfl (op_move (qT (by repeat (first | with_reducible (first | exact qS | assumption) | refine qN rfl ?_ | exact qO rfl))) ?_)
  refine RP.p rfl (op_move (qT (by repeat (first | with_reducible (first | exact qS | assumption) | refine qN rfl ?_ | exact qO rfl))) ?_)
  refine RP.p rfl (op_bin (qT (by repeat (first | with_reducible (first | exact qS | assumption) | refine qN rfl ?_ | exact qO rfl))) (show ev _ _ = some (.int .u64 (.ofNat 16)) from rfl) (bin_shr (by show _ ≤ _; decide)) ?_)
  refine RP.p rfl (op_bin (qT (by repeat (first | with_reducible (first | exact qS | assumption) | refine qN rfl ?_ | exact qO rfl))) (qT (by repeat (first | with_reducible (first | exact qS | assumption) | refine qN rfl ?_ | exact qO rfl))) (bin_add (by have e1 : topK .i64 = 9223372036854775808 := rfl; have e2 : topK .u32 = 4294967296 := rfl; have e3 : topK .u64 = 18446744073709551616 := rfl; have e4 : topK .u8 = 256 := rfl; have e5 : topK .u16 = 65536 := rfl; omega)) ?_)
  refine RP.p rfl (op_assign (qT (by repeat (first | with_reducible (first | exact qS | assumption) | refine qN rfl ?_ | exact qO rfl))) ?_)
  refine RP.nil ?_
  have l5 : y4 + y4 / 2 ^ 16 ≤ 1300000000000000000 := by omega
  generalize e5 : y4 + y4 / 2 ^ 16 = y5 at l5 ⊢
  refine Gives.seq ?_
  refine Gives.region [.p 0, .p 1, .p 2, .p 3, .p 4] (by kernel_rfl) ?_
  refine RP.p rfl (op_move (qT (by repeat (first | with_reducible (first | exact qS | assumption) | refine qN rfl ?_ | exact qO rfl))) ?_)
  refine RP.p rfl (op_move (qT (by repeat (first | with_reducible (first | exact qS | assumption) | refine qN rfl ?_ | exact qO rfl))) ?_)
  refine RP.p rfl (op_bin (qT (by repeat (first | with_reducible (first | exact qS | assumption) | refine qN rfl ?_ | exact qO rfl))) (show ev _ _ = some (.int .u64 (.ofNat 32)) from rfl) (bin_shr (by show _ ≤ _; decide)) ?_)
  refine RP.p rfl (op_bin (qT (by repeat (first | with_reducible (first | exact qS | assumption) | refine qN rfl ?_ | exact qO rfl))) (qT (by repeat (first | with_reducible (first | exact qS | assumption) | refine qN rfl ?_ | exact qO rfl))) (bin_add (by have e1 : topK .i64 = 9223372036854775808 := rfl; have e2 : topK .u32 = 4294967296 := rfl; have e3 : topK .u64 = 18446744073709551616 := rfl; have e4 : topK .u8 = 256 := rfl; have e5 : topK .u16 = 65536 := rfl; omega)) ?_)
  refine RP.p rfl (op_assign (qT (by repeat (first | with_reducible (first | exact qS | assumption) | refine qN rfl ?_ | exact qO rfl))) ?_)
  refine RP.nil ?_
  have l6 : y5 + y5 / 2 ^ 32 ≤ 1400000000000000000 := by omega
  generalize e6 : y5 + y5 / 2 ^ 32 = y6 at l6 ⊢
  refine Gives.seq ?_
  refine Gives.region [.p 0, .p 1, .p 2, .p 3] (by kernel_rfl) ?_
  refine RP.p rfl (op_move (qT (by repeat (first | with_reducible (first | exact qS | assumption) | refine qN rfl ?_ | exact qO rfl))) ?_)
  refine RP.p rfl (op_conv (qT (by repeat (first | with_reducible (first | exact qS | assumption) | refine qN rfl ?_ | exact qO rfl))) Tryz.underlying70 Tryz.underlying3 (by have e1 : topK .i64 = 9223372036854775808 := rfl; have e2 : topK .u32 = 4294967296 := rfl; have e3 : topK .u64 = 18446744073709551616 := rfl; have e4 : topK .u8 = 256 := rfl; have e5 : topK .u16 = 65536 := rfl; omega) ?_)
  refine RP.p rfl (op_bin (qT (by repeat (first | with_reducible (first | exact qS | assumption) | refine qN rfl ?_ | exact qO rfl))) (show ev _ _ = some (.int .i64 (.ofNat 127)) from rfl) (bin_and (by have e1 : topK .i64 = 9223372036854775808 := rfl; have e2 : topK .u32 = 4294967296 := rfl; have e3 : topK .u64 = 18446744073709551616 := rfl; have e4 : topK .u8 = 256 := rfl; have e5 : topK .u16 = 65536 := rfl; omega) (by have e1 : topK .i64 = 9223372036854775808 := rfl; have e2 : topK .u32 = 4294967296 := rfl; have e3 : topK .u64 = 18446744073709551616 := rfl; have e4 : topK .u8 = 256 := rfl; have e5 : topK .u16 = 65536 := rfl; omega)) ?_)
  refine RP.p rfl (op_assign (qT (by repeat (first | with_reducible (first | exact qS | assumption) | refine qN rfl ?_ | exact qO rfl))) ?_)
  refine RP.nil ?_
  refine Gives.ret0 (RS.one (by repeat (first | with_reducible (first | exact qS | assumption) | refine qN rfl ?_ | exact qO rfl)) ⟨?_, rfl⟩)
  subst e1 e2 e3 e4 e5 e6
  rfl
theorem syn_spec {d : Nat} (hS : SOk S) (hL : 100 ≤ L) (w : Nat) (hw : w < 18446744073709551616) : CS Tryz.prog X S L (d + 2) 55 [.int .u64 (.ofNat w)] h (fun v h' => v = .int .i64 (.ofNat (syn w)) ∧ h = h') := by
  refine CS.of (rs := [.tmp 2]) (hS.none _ (by decide) (by decide)) Tryz.func55 rfl rfl ?_
  refine Gives.seq ?_
  refine Gives.region [.p 0] (by kernel_rfl) ?_
  refine RP.p rfl (op_assign (show ev _ _ = some (.int .i64 (.ofNat 0)) from rfl) ?_)
  refine RP.nil ?_
  refine Gives.seq ?_
  refine Gives.region [.p 0] (by kernel_rfl) ?_
  refine RP.p rfl (op_assign (show ev _ _ = some (.int .i64 (.ofNat 0)) from rfl) ?_)
  refine RP.nil ?_
  refine Gives.seq ?_
  refine Gives.seq ?_
  refine Gives.region [.e 0 [], .p 1] (by kernel_rfl) ?_
  refine RP.e rfl (op_calls evs_nil (by kernel_rfl) (CS.sum (Q := fun v h' => v = .agg masksL ∧ h = h') hS.masks rfl ⟨rfl, rfl⟩) ?_)
  rintro v h' ⟨rfl, rfl⟩
  refine RP.p rfl (op_move (show ev _ _ = some (.int .i64 (.ofNat 0)) from rfl) ?_)
  refine RP.nil ?_
  refine Gives.block ?_
  refine Gives.loop (I := fun k F h' => ∃ j s, k + j = 6 ∧ s < 2 ^ j ∧ synL k j s w = syn w ∧ F.at 0 = some (.int .u64 (.ofNat w)) ∧ F.at 3 = some (.int .i64 (.ofNat s)) ∧ F.at 6 = some (.agg masksL) ∧ F.at 7 = some (.int .i64 (.ofNat j)) ∧ h = h')
    (fun k F h' hI => ?_) (k := 6) (by omega) ⟨0, 0, rfl, by decide, rfl, (by repeat (first | with_reducible (first | exact qS | assumption) | refine qN rfl ?_ | exact qO rfl)), (by repeat (first | with_reducible (first | exact qS | assumption) | refine qN rfl ?_ | exact qO rfl)), (by repeat (first | with_reducible (first | exact qS | assumption) | refine qN rfl ?_ | exact qO rfl)), (by repeat (first | with_reducible (first | exact qS | assumption) | refine qN rfl ?_ | exact qO rfl)), rfl⟩
  obtain ⟨j, s, hk, hs, hsy, f0, f3, f6, f7, rfl⟩ := hI
  have hj6 : 2 ^ j ≤ 2 ^ 6 := Nat.pow_le_pow_right (by decide) (by omega)
  refine Gives.seq ?_
  refine Gives.region [.p 0] (by kernel_rfl) ?_
  refine RP.p rfl (op_bin (qT (by repeat (first | with_reducible (first | exact qS | assumption) | refine qN rfl ?_ | exact qO rfl))) (show ev _ _ = some (.int .i64 (.ofNat 6)) from rfl) bin_lssN ?_)
  refine RP.nil ?_
  refine Gives.seq ?_
  refine Gives.cond (qT (by repeat (first | with_reducible (first | exact qS | assumption) | refine qN rfl ?_ | exact qO rfl))) (fun hb => ?_) (fun hb => ?_)
  · have hj : j < 6 := of_decide_eq_true hb
    obtain ⟨k, rfl⟩ : ∃ m, k = m + 1 := ⟨k - 1, by omega⟩
    refine Gives.skip ?_
    refine Gives.seq ?_
    refine Gives.block ?_
    refine Gives.seq ?_
    refine Gives.region [.p 0, .p 1, .p 2, .p 3] (by kernel_rfl) ?_
    refine RP.p rfl (op_move (qT (by repeat (first | with_reducible (first | exact qS | assumption) | refine qN rfl ?_ | exact qO rfl))) ?_)
    refine RP.p rfl (op_index_agg (qT (by repeat (first | with_reducible (first | exact qS | assumption) | refine qN rfl ?_ | exact qO rfl))) (qT (by repeat (first | with_reducible (first | exact qS | assumption) | refine qN rfl ?_ | exact qO rfl))) Tryz.underlying187 (by kernel_rfl) (by kernel_rfl) hj (masks_get hj) ?_)
    refine RP.p rfl (op_assign (qT (by repeat (first | with_reducible (first | exact qS | assumption) | refine qN rfl ?_ | exact qO rfl))) ?_)
    refine RP.p rfl (op_assign (qT (by repeat (first | with_reducible (first | exact qS | assumption) | refine qN rfl ?_ | exact qO rfl))) ?_)
    refine RP.nil ?_
    have hm := maskN_lt j hj
    have ha : w &&& maskN j < 18446744073709551616 := Nat.lt_of_le_of_lt Nat.and_le_left hw
    have ho := oc64_le (w &&& maskN j)
    have hp := oc64_par _ ha
    have hp2 := par_lt (w &&& maskN j)
    have hsh : (oc64 (w &&& maskN j) &&& 1) * 2 ^ j < 64 := by
      rw [hp]
      have : par (w &&& maskN j) * 2 ^ j ≤ 1 * 2 ^ j := Nat.mul_le_mul_right _ (by omega)
      have h5 : 2 ^ j ≤ 2 ^ 5 := Nat.pow_le_pow_right (by decide) (by omega)
      omega
    refine Gives.region [.p 0, .p 1, .p 2, .p 3, .e 4 [], .p 5, .p 6, .p 7, .p 8, .p 9] (by kernel_rfl) ?_
    refine RP.p rfl (op_move (qT (by repeat (first | with_reducible (first | exact qS | assumption) | refine qN rfl ?_ | exact qO rfl))) ?_)
    refine RP.p rfl (op_move (qT (by repeat (first | with_reducible (first | exact qS | assumption) | refine qN rfl ?_ | exact qO rfl))) ?_)
    refine RP.p rfl (op_move (qT (by repeat (first | with_reducible (first | exact qS | assumption) | refine qN rfl ?_ | exact qO rfl))) ?_)
    refine RP.p rfl (op_bin (qT (by repeat (first | with_reducible (first | exact qS | assumption) | refine qN rfl ?_ | exact qO rfl))) (qT (by repeat (first | with_reducible (first | exact qS | assumption) | refine qN rfl ?_ | exact qO rfl))) (bin_and (by have e1 : topK .i64 = 9223372036854775808 := rfl; have e2 : topK .u32 = 4294967296 := rfl; have e3 : topK .u64 = 18446744073709551616 := rfl; have e4 : topK .u8 = 256 := rfl; have e5 : topK .u16 = 65536 := rfl; omega) (by have e1 : topK .i64 = 9223372036854775808 := rfl; have e2 : topK .u32 = 4294967296 := rfl; have e3 : topK .u64 = 18446744073709551616 := rfl; have e4 : topK .u8 = 256 := rfl; have e5 : topK .u16 = 65536 := rfl; omega)) ?_)
    refine RP.e rfl (op_calls (evs_cons (qT (by repeat (first | with_reducible (first | exact qS | assumption) | refine qN rfl ?_ | exact qO rfl))) evs_nil) (by kernel_rfl) (ones_spec hS _ ha) ?_)
    rintro v h' ⟨rfl, rfl⟩
    refine RP.p rfl (op_bin (qT (by repeat (first | with_reducible (first | exact qS | assumption) | refine qN rfl ?_ | exact qO rfl))) (show ev _ _ = some (.int .i64 (.ofNat 1)) from rfl) (bin_and (by have e1 : topK .i64 = 9223372036854775808 := rfl; have e2 : topK .u32 = 4294967296 := rfl; have e3 : topK .u64 = 18446744073709551616 := rfl; have e4 : topK .u8 = 256 := rfl; have e5 : topK .u16 = 65536 := rfl; omega) (by have e1 : topK .i64 = 9223372036854775808 := rfl; have e2 : topK .u32 = 4294967296 := rfl; have e3 : topK .u64 = 18446744073709551616 := rfl; have e4 : topK .u8 = 256 := rfl; have e5 : topK .u16 = 65536 := rfl; omega)) ?_)
    refine RP.p rfl (op_move (qT (by repeat (first | with_reducible (first | exact qS | assumption) | refine qN rfl ?_ | exact qO rfl))) ?_)
    refine RP.p rfl (op_bin (qT (by repeat (first | with_reducible (first | exact qS | assumption) | refine qN rfl ?_ | exact qO rfl))) (qT (by repeat (first | with_reducible (first | exact qS | assumption) | refine qN rfl ?_ | exact qO rfl))) (bin_shl (by show _ ≤ 64; omega) (by have e1 : topK .i64 = 9223372036854775808 := rfl; have e2 : topK .u32 = 4294967296 := rfl; have e3 : topK .u64 = 18446744073709551616 := rfl; have e4 : topK .u8 = 256 := rfl; have e5 : topK .u16 = 65536 := rfl; omega)) ?_)
    refine RP.p rfl (op_bin (qT (by repeat (first | with_reducible (first | exact qS | assumption) | refine qN rfl ?_ | exact qO rfl))) (qT (by repeat (first | with_reducible (first | exact qS | assumption) | refine qN rfl ?_ | exact qO rfl))) (bin_or (by have e1 : topK .i64 = 9223372036854775808 := rfl; have e2 : topK .u32 = 4294967296 := rfl; have e3 : topK .u64 = 18446744073709551616 := rfl; have e4 : topK .u8 = 256 := rfl; have e5 : topK .u16 = 65536 := rfl; omega) (by have e1 : topK .i64 = 9223372036854775808 := rfl; have e2 : topK .u32 = 4294967296 := rfl; have e3 : topK .u64 = 18446744073709551616 := rfl; have e4 : topK .u8 = 256 := rfl; have e5 : topK .u16 = 65536 := rfl; omega)) ?_)
    refine RP.p rfl (op_assign (qT (by repeat (first | with_reducible (first | exact qS | assumption) | refine qN rfl ?_ | exact qO rfl))) ?_)
    refine RP.nil ?_
    refine Gives.region [.p 0, .p 1] (by kernel_rfl) ?_
    refine RP.p rfl (op_bin (qT (by repeat (first | with_reducible (first | exact qS | assumption) | refine qN rfl ?_ | exact qO rfl))) (show ev _ _ = some (.int .i64 (.ofNat 1)) from rfl) (bin_add (by have e1 : topK .i64 = 9223372036854775808 := rfl; have e2 : topK .u32 = 4294967296 := rfl; have e3 : topK .u64 = 18446744073709551616 := rfl; have e4 : topK .u8 = 256 := rfl; have e5 : topK .u16 = 65536 := rfl; omega)) ?_)
    refine RP.p rfl (op_move (qT (by repeat (first | with_reducible (first | exact qS | assumption) | refine qN rfl ?_ | exact qO rfl))) ?_)
    refine RP.nil ?_
    refine ⟨k, by omega, j + 1, _, by omega, ?_, ?_, (by repeat (first | with_reducible (first | exact qS | assumption) | refine qN rfl ?_ | exact qO rfl)), (by repeat (first | with_reducible (first | exact qS | assumption) | refine qN rfl ?_ | exact qO rfl)), (by repeat (first | with_reducible (first | exact qS | assumption) | refine qN rfl ?_ | exact qO rfl)), (by repeat (first | with_reducible (first | exact qS | assumption) | refine qN rfl ?_ | exact qO rfl)), rfl⟩
    · rw [hp, or_eq_xor (low_and_high hs)]; exact xor_high_lt hs hp2
    · rw [hp, ← hsy]; rfl
  · have hj : ¬ j < 6 := of_decide_eq_false hb
    obtain rfl : k = 0 := by omega
    refine Gives.exit_same ?_
    refine Gives.seq ?_
    refine Gives.region [.p 0, .p 1] (by kernel_rfl) ?_
    refine RP.p rfl (op_move (qT (by repeat (first | with_reducible (first | exact qS | assumption) | refine qN rfl ?_ | exact qO rfl))) ?_)
    refine RP.p rfl (op_assign (qT (by repeat (first | with_reducible (first | exact qS | assumption) | refine qN rfl ?_ | exact qO rfl))) ?_)
    refine RP.nil ?_
    exact Gives.ret0 (RS.one (by repeat (first | with_reducible (first | exact qS | assumption) | refine qN rfl ?_ | exact qO rfl)) ⟨by rw [← hsy]; rfl, rfl⟩)
theorem parity_spec {d : Nat} (hS : SOk S) (w : Nat) (hw : w < 18446744073709551616) : CS Tryz.prog X S L (d + 2) 56 [.int .u64 (.ofNat w)] h (fun v h' => v = .int .i64 (.ofNat (parity w)) ∧ h = h') := by
  refine CS.of (rs := [.tmp 2]) (hS.none _ (by decide) (by decide)) Tryz.func56 rfl rfl ?_
  refine Gives.seq ?_
  refine Gives.region [.p 0] (by kernel_rfl) ?_
  refine RP.p rfl (op_assign (show ev _ _ = some (.int .i64 (.ofNat 0)) from rfl) ?_)
  refine RP.nil ?_
  refine Gives.seq ?_
  have ha : w &&& 549755813887 < 18446744073709551616 := Nat.lt_of_le_of_lt Nat.and_le_left hw
  have ho := oc64_le (w &&& 549755813887)
  refine Gives.region [.p 0, .p 1, .e 2 [], .p 3, .p 4] (by kernel_rfl) ?_
  refine RP.p rfl (op_move (qT (by repeat (first | with_reducible (first | exact qS | assumption) | refine qN rfl ?_ | exact qO rfl))) ?_)
  refine RP.p rfl (op_bin (qT (by repeat (first | with_reducible (first | exact qS | assumption) | refine qN rfl ?_ | exact qO rfl))) (show ev _ _ = some (.int .u64 (.ofNat 549755813887)) from rfl) (bin_and (by have e1 : topK .i64 = 9223372036854775808 := rfl; have e2 : topK .u32 = 4294967296 := rfl; have e3 : topK .u64 = 18446744073709551616 := rfl; have e4 : topK .u8 = 256 := rfl; have e5 : topK .u16 = 65536 := rfl; omega) (by have e1 : topK .i64 = 9223372036854775808 := rfl; have e2 : topK .u32 = 4294967296 := rfl; have e3 : topK .u64 = 18446744073709551616 := rfl; have e4 : topK .u8 = 256 := rfl; have e5 : topK .u16 = 65536 := rfl; omega)) ?_)
  refine RP.e rfl (op_calls (evs_cons (qT (by repeat (first | with_reducible (first | exact qS | assumption) | refine qN rfl ?_ | exact qO rfl))) evs_nil) (by kernel_rfl) (ones_spec hS _ ha) ?_)
  rintro v h' ⟨rfl, rfl⟩
  refine RP.p rfl (op_bin (qT (by repeat (first | with_reducible (first | exact qS | assumption) | refine qN rfl ?_ | exact qO rfl))) (show ev _ _ = some (.int .i64 (.ofNat 1)) from rfl) (bin_and (by have e1 : topK .i64 = 9223372036854775808 := rfl; have e2 : topK .u32 = 4294967296 := rfl; have e3 : topK .u64 = 18446744073709551616 := rfl; have e4 : topK .u8 = 256 := rfl; have e5 : topK .u16 = 65536 := rfl; omega) (by have e1 : topK .i64 = 9223372036854775808 := rfl; have e2 : topK .u32 = 4294967296 := rfl; have e3 : topK .u64 = 18446744073709551616 := rfl; have e4 : topK .u8 = 256 := rfl; have e5 : topK .u16 = 65536 := rfl; omega)) ?_)
  refine RP.p rfl (op_assign (qT (by repeat (first | with_reducible (first | exact qS | assumption) | refine qN rfl ?_ | exact qO rfl))) ?_)
  refine RP.nil ?_
  exact Gives.ret0 (RS.one (by repeat (first | with_reducible (first | exact qS | assumption) | refine qN rfl ?_ | exact qO rfl)) ⟨by rw [oc64_par _ ha]; rfl, rfl⟩)
end Go.Abs
