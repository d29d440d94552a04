/- What a new memory is, and what opening a vault in it gives. No condition. -/
import Derived.Test.YtkihpcjfhilgcaaGreatZ15
import Derived.Test.YtkihpcjfhilgcaaGreatZ17
namespace Go.Abs
open Go.Proofs
variable {X : Ext0} {S : Sums} {L : Nat} {h : H}
theorem enc_zero : enc 0 = 0 := by decide +kernel
def sizeN (size : Int) : Nat := min size.toNat 65536
theorem sizeN_le (size : Int) : sizeN size ≤ 65536 := Nat.min_le_right _ _
theorem sizeN_eq (size : Int) : (if Int.ofNat 65536 < (if Int.ofNat 0 > size then Int.ofNat 0 else size) then Int.ofNat 65536 else (if Int.ofNat 0 > size then Int.ofNat 0 else size)) = Int.ofNat (sizeN size) := by
  unfold sizeN
  show _ = ((min size.toNat 65536 : Nat) : Int)
  have e0 : Int.ofNat 0 = 0 := rfl
  have e1 : Int.ofNat 65536 = 65536 := rfl
  rw [e0, e1]
  split <;> split at * <;> omega
theorem info70 : ∃ i, Tryz.prog.info? 70 = some i ∧ i.size = 1 ∧ i.bytes = 8 := by
  have h : (Tryz.prog.info? 70).map (fun i => (i.size, i.bytes)) = some (1, 8) := by kernel_rfl
  cases hi : Tryz.prog.info? 70 with
  | none => rw [hi] at h; cases h
  | some i => rw [hi] at h; simp only [Option.map_some, Option.some.injEq, Prod.mk.injEq] at h; exact ⟨i, rfl, h⟩
theorem new_spec {d : Nat} (hS : SOk S) (hL : 65536 < L) (hw : WF h) (size : Int) :
    CS Tryz.prog X S L (d + 4) 5 [.int .i64 size] h (fun v h' => ∃ bm bw, v = .ptr bm 0 ∧ h.next ≤ bm ∧ h.next ≤ bw ∧ Mem h' bm bw (sizeN size) (fun _ => 0) (fun _ => False) ∧ Fr (fun _ => False) h h') := by
  have hn := sizeN_eq size
  have hle := sizeN_le size
  generalize sizeN size = n at hn hle ⊢
  obtain ⟨i70, hi, hi1, hi2⟩ := info70
  refine CS.of (rs := [.tmp 2]) (hS.none _ (by decide) (by decide)) Tryz.func5 rfl rfl ?_
  refine Gives.seq ?_
  refine Gives.region [.p 0] (by kernel_rfl) ?_
  refine RP.p rfl (op_assign rfl ?_)
  refine RP.nil ?_
  refine Gives.seq ?_
  refine Gives.region [.p 0, .p 1, .p 2, .p 3, .p 4, .p 5, .p 6] (by kernel_rfl) ?_
  refine RP.p rfl (op_move (qT (by repeat (first | with_reducible (first | exact qS | assumption) | refine qN rfl ?_ | exact qO rfl))) ?_)
  refine RP.p rfl (op_max (qT (by repeat (first | with_reducible (first | exact qS | assumption) | refine qN rfl ?_ | exact qO rfl))) (show ev _ _ = some (.int .i64 (.ofNat 0)) from rfl) ?_)
  refine RP.p rfl (op_min (qT (by repeat (first | with_reducible (first | exact qS | assumption) | refine qN rfl ?_ | exact qO rfl))) (show ev _ _ = some (.int .i64 (.ofNat 65536)) from rfl) ?_)
  rw [hn]
  refine RP.p rfl (op_makeSlice (e := 70) (z := .int .u64 (.ofNat 0)) Tryz.underlying67 (qT (by repeat (first | with_reducible (first | exact qS | assumption) | refine qN rfl ?_ | exact qO rfl))) (qT (by repeat (first | with_reducible (first | exact qS | assumption) | refine qN rfl ?_ | exact qO rfl))) hi (by kernel_rfl) hi1 (by rw [hi2]; omega) rfl (by omega) ?_)
  refine RP.p rfl (op_build (z := .agg [.bool false, .snil, .int .i64 (.ofNat 0)]) (cs := [.bool true, .slice h.next 0 n n 1 true, .int .i64 (.ofNat 0)]) (by kernel_rfl) Tryz.underlying69 (evParts_cons rfl (evParts_cons (qT (by repeat (first | with_reducible (first | exact qS | assumption) | refine qN rfl ?_ | exact qO rfl))) evParts_nil)) (by kernel_rfl) (by kernel_rfl) ?_)
  refine RP.p rfl (op_box (qT (by repeat (first | with_reducible (first | exact qS | assumption) | refine qN rfl ?_ | exact qO rfl))) ?_)
  refine RP.p rfl (op_assign (qT (by repeat (first | with_reducible (first | exact qS | assumption) | refine qN rfl ?_ | exact qO rfl))) ?_)
  refine RP.nil ?_
  have e1 : (h.new (.cells n (ofL (List.replicate n (.int .u64 (.ofNat 0)))))).next = h.next + 1 := rfl
  rw [e1]
  have hM : Mem ((h.new (.cells n (ofL (List.replicate n (.int .u64 (.ofNat 0)))))).new (.cells 3 (ofL [.bool true, .slice h.next 0 n n 1 true, .int .i64 (.ofNat 0)]))) (h.next + 1) h.next n (fun _ => 0) (fun _ => False) := by
    refine ⟨hw.new.new, by omega, hle, ⟨_, 0, obj_new_same (h := h.new _) (by simp), qO rfl, qO rfl, qO rfl⟩, ⟨_, obj_new_ne (by show h.next ≠ h.next + 1; omega) (obj_new_same (by simp)), fun i hi => ⟨0, qO (by rw [List.getElem?_replicate, if_pos hi]), by decide, .inl enc_zero.symm⟩⟩⟩
  have hF : Fr (fun _ => False) h ((h.new (.cells n (ofL (List.replicate n (.int .u64 (.ofNat 0)))))).new (.cells 3 (ofL [.bool true, .slice h.next 0 n n 1 true, .int .i64 (.ofNat 0)]))) := ((Fr.refl hw).new _).new _
  refine Gives.seq ?_
  refine Gives.seq ?_
  refine Gives.region [.p 0, .p 1, .p 2, .r 3, .p 4, .p 5] (by kernel_rfl) ?_
  obtain ⟨cm, cnt, g1, g2, g3, g4⟩ := hM.m
  refine RP.p rfl (op_move (qT (by repeat (first | with_reducible (first | exact qS | assumption) | refine qN rfl ?_ | exact qO rfl))) ?_)
  refine RP.p rfl (op_nilCheck (qT (by repeat (first | with_reducible (first | exact qS | assumption) | refine qN rfl ?_ | exact qO rfl))) ?_)
  refine RP.p rfl (op_fieldAddr (off := 1) (qT (by repeat (first | with_reducible (first | exact qS | assumption) | refine qN rfl ?_ | exact qO rfl))) (by kernel_rfl) ?_)
  refine RP.r rfl (op_load (qT (by repeat (first | with_reducible (first | exact qS | assumption) | refine qN rfl ?_ | exact qO rfl))) (loadA_cell (by kernel_rfl) g1 (by omega) g3) ?_)
  refine RP.p rfl (op_len_slice (qT (by repeat (first | with_reducible (first | exact qS | assumption) | refine qN rfl ?_ | exact qO rfl))) Tryz.underlying67 ?_)
  refine RP.p rfl (op_move (show ev _ _ = some (.int .i64 (.ofNat 0)) from rfl) ?_)
  refine RP.nil ?_
  refine Gives.block ?_
  refine Gives.loop (I := fun k F h' => ∃ a, k + a = n ∧ F.at 3 = some (.ptr (h.next + 1) 0) ∧ F.at 15 = some (.int .i64 (.ofNat n)) ∧ F.at 16 = some (.int .i64 (.ofNat a)) ∧ Mem h' (h.next + 1) h.next n (fun _ => 0) (fun _ => False) ∧ Fr (fun _ => False) h h')
    (fun k F h' hI => ?_) (k := n) (by omega) ⟨0, rfl, (by repeat (first | with_reducible (first | exact qS | assumption) | refine qN rfl ?_ | exact qO rfl)), (by repeat (first | with_reducible (first | exact qS | assumption) | refine qN rfl ?_ | exact qO rfl)), (by repeat (first | with_reducible (first | exact qS | assumption) | refine qN rfl ?_ | exact qO rfl)), hM, hF⟩
  clear g1 g2 g3 g4 hM hF
  obtain ⟨a, hk, f3, f15, f16, hM, hF⟩ := hI
  obtain ⟨cm, cnt, g1, g2, g3, g4⟩ := hM.m
  obtain ⟨cw, g5, g6⟩ := hM.w
  refine Gives.seq ?_
  refine Gives.region [.p 0] (by kernel_rfl) ?_
  refine RP.p rfl (op_bin (qT (by repeat (first | with_reducible (first | exact qS | assumption) | refine qN rfl ?_ | exact qO rfl))) (qT (by repeat (first | with_reducible (first | exact qS | assumption) | refine qN rfl ?_ | exact qO rfl))) bin_lssN ?_)
  refine RP.nil ?_
  refine Gives.seq ?_
  refine Gives.cond (qT (by repeat (first | with_reducible (first | exact qS | assumption) | refine qN rfl ?_ | exact qO rfl))) (fun hb => ?_) (fun hb => ?_)
  · have ha : a < n := of_decide_eq_true hb
    obtain ⟨k, rfl⟩ : ∃ m, k = m + 1 := ⟨k - 1, by omega⟩
    refine Gives.skip ?_
    refine Gives.seq ?_
    refine Gives.block ?_
    refine Gives.seq ?_
    refine Gives.region [.p 0, .p 1] (by kernel_rfl) ?_
    refine RP.p rfl (op_move (qT (by repeat (first | with_reducible (first | exact qS | assumption) | refine qN rfl ?_ | exact qO rfl))) ?_)
    refine RP.p rfl (op_assign (qT (by repeat (first | with_reducible (first | exact qS | assumption) | refine qN rfl ?_ | exact qO rfl))) ?_)
    refine RP.nil ?_
    refine Gives.region [.p 0, .p 1, .p 2, .r 3, .p 4, .e 5 [3], .p 6, .e 7 []] (by kernel_rfl) ?_
    refine RP.p rfl (op_move (qT (by repeat (first | with_reducible (first | exact qS | assumption) | refine qN rfl ?_ | exact qO rfl))) ?_)
    refine RP.p rfl (op_nilCheck (qT (by repeat (first | with_reducible (first | exact qS | assumption) | refine qN rfl ?_ | exact qO rfl))) ?_)
    refine RP.p rfl (op_fieldAddr (off := 1) (qT (by repeat (first | with_reducible (first | exact qS | assumption) | refine qN rfl ?_ | exact qO rfl))) (by kernel_rfl) ?_)
    refine RP.r rfl (op_load (qT (by repeat (first | with_reducible (first | exact qS | assumption) | refine qN rfl ?_ | exact qO rfl))) (loadA_cell (by kernel_rfl) g1 (by omega) g3) ?_)
    refine RP.p rfl (op_move (qT (by repeat (first | with_reducible (first | exact qS | assumption) | refine qN rfl ?_ | exact qO rfl))) ?_)
    refine RP.e rfl (op_callsR (evs_cons (show ev _ _ = some (.int .u32 (.ofNat 0)) from rfl) evs_nil) (by kernel_rfl) (enc_spec hS (by omega) 0 (by decide)) ?_ ?_)
    · rintro v h' ⟨rfl, rfl⟩
      exact all_one (chkR_load rfl (qT (by repeat (first | with_reducible (first | exact qS | assumption) | refine qN rfl ?_ | exact qO rfl))) (loadA_cell (by kernel_rfl) g1 (by omega) g3) (by repeat (first | with_reducible (first | exact qS | assumption) | refine qN rfl ?_ | exact qO rfl)) (by simp [AV.same, AV.same0]))
    rintro v h' ⟨rfl, rfl⟩
    refine RP.p rfl (op_indexAddr (qT (by repeat (first | with_reducible (first | exact qS | assumption) | refine qN rfl ?_ | exact qO rfl))) (qT (by repeat (first | with_reducible (first | exact qS | assumption) | refine qN rfl ?_ | exact qO rfl))) Tryz.underlying67 (by kernel_rfl) ha (Nat.le_refl _) ?_)
    refine RP.e rfl (op_store (qT (by repeat (first | with_reducible (first | exact qS | assumption) | refine qN rfl ?_ | exact qO rfl))) (qT (by repeat (first | with_reducible (first | exact qS | assumption) | refine qN rfl ?_ | exact qO rfl))) g5 (by kernel_rfl) rfl (by omega) ?_)
    refine RP.nil ?_
    refine Gives.region [.p 0, .p 1] (by kernel_rfl) ?_
    refine RP.p rfl (op_bin (qT (by repeat (first | with_reducible (first | exact qS | assumption) | refine qN rfl ?_ | exact qO rfl))) (show ev _ _ = some (.int .i64 (.ofNat 1)) from rfl) (bin_add (by have e1 : topK .i64 = 9223372036854775808 := rfl; have e2 : topK .u32 = 4294967296 := rfl; have e3 : topK .u64 = 18446744073709551616 := rfl; have e4 : topK .u8 = 256 := rfl; have e5 : topK .u16 = 65536 := rfl; omega)) ?_)
    refine RP.p rfl (op_move (qT (by repeat (first | with_reducible (first | exact qS | assumption) | refine qN rfl ?_ | exact qO rfl))) ?_)
    refine RP.nil ?_
    refine ⟨k, by omega, a + 1, by omega, (by repeat (first | with_reducible (first | exact qS | assumption) | refine qN rfl ?_ | exact qO rfl)), (by repeat (first | with_reducible (first | exact qS | assumption) | refine qN rfl ?_ | exact qO rfl)), (by repeat (first | with_reducible (first | exact qS | assumption) | refine qN rfl ?_ | exact qO rfl)), ?_, hF.set _ (hM.wf.lt g5) fun hlt => by omega⟩
    rw [Nat.zero_add, Nat.mul_one]
    exact hM.setw g5 a _ (.clean (by decide)) fun i hi _ => g6 i hi
  · refine Gives.exit_same ?_
    refine Gives.seq ?_
    refine Gives.region [.p 0, .p 1] (by kernel_rfl) ?_
    refine RP.p rfl (op_move (qT (by repeat (first | with_reducible (first | exact qS | assumption) | refine qN rfl ?_ | exact qO rfl))) ?_)
    refine RP.p rfl (op_assign (qT (by repeat (first | with_reducible (first | exact qS | assumption) | refine qN rfl ?_ | exact qO rfl))) ?_)
    refine RP.nil ?_
    exact Gives.ret0 (RS.one (by repeat (first | with_reducible (first | exact qS | assumption) | refine qN rfl ?_ | exact qO rfl)) ⟨h.next + 1, h.next, rfl, by omega, Nat.le_refl _, hM, hF⟩)
structure Vlt (h : H) (bv bm start half : Nat) : Prop where
  v : ∃ cv, h.obj bv = some (.cells 3 cv) ∧ cv.at 0 = some (.ptr bm 0) ∧ cv.at 1 = some (.int .i64 (.ofNat start)) ∧ cv.at 2 = some (.int .i64 (.ofNat half))
  s : start ≤ 65536
  h4 : 4 ≤ half
  hh : half ≤ 65536
theorem Vlt.fr {h h' : H} {bv bm start half : Nat} (m : Vlt h bv bm start half) (w : WF h) {B : Nat → Prop} (f : Fr B h h') (h1 : ¬ B bv) : Vlt h' bv bm start half := by
  obtain ⟨cv, g1, g2⟩ := m.v
  exact ⟨⟨cv, f.get w g1 h1, g2⟩, m.s, m.h4, m.hh⟩
theorem usable_spec {d : Nat} (hS : SOk S) {bv bm start half : Nat} (hV : Vlt h bv bm start half) : CS Tryz.prog X S L (d + 1) 31 [.ptr bv 0] h (fun v h' => v = .bool true ∧ h = h') := by
  obtain ⟨cv, v1, v2, v3, v4⟩ := hV.v
  refine CS.of (rs := [.tmp 2]) (hS.none _ (by decide) (by decide)) Tryz.func31 rfl rfl ?_
  refine Gives.seq ?_
  refine Gives.region [.p 0] (by kernel_rfl) ?_
  refine RP.p rfl (op_assign rfl ?_)
  refine RP.nil ?_
  refine Gives.seq ?_
  refine Gives.region [.p 0, .p 1, .p 2, .p 3, .p 4, .p 5, .r 6, .p 7, .p 8, .p 9] (by kernel_rfl) ?_
  refine RP.p rfl (op_move (qT (by repeat (first | with_reducible (first | exact qS | assumption) | refine qN rfl ?_ | exact qO rfl))) ?_)
  refine RP.p rfl (op_bin (qT (by repeat (first | with_reducible (first | exact qS | assumption) | refine qN rfl ?_ | exact qO rfl))) rfl (bin_neq_nil Tryz.underlying29) ?_)
  refine RP.p rfl (op_move (qT (by repeat (first | with_reducible (first | exact qS | assumption) | refine qN rfl ?_ | exact qO rfl))) ?_)
  refine RP.p rfl (OpP.on' rfl rfl (by repeat (first | with_reducible (first | exact qS | assumption) | refine qN rfl ?_ | exact qO rfl)) (op_move (qT (by repeat (first | with_reducible (first | exact qS | assumption) | refine qN rfl ?_ | exact qO rfl))) ?_))
  refine RP.p rfl (OpP.on' rfl rfl (by repeat (first | with_reducible (first | exact qS | assumption) | refine qN rfl ?_ | exact qO rfl)) (op_nilCheck (qT (by repeat (first | with_reducible (first | exact qS | assumption) | refine qN rfl ?_ | exact qO rfl))) ?_))
  refine RP.p rfl (OpP.on' rfl rfl (by repeat (first | with_reducible (first | exact qS | assumption) | refine qN rfl ?_ | exact qO rfl)) (op_fieldAddr (off := 0) (qT (by repeat (first | with_reducible (first | exact qS | assumption) | refine qN rfl ?_ | exact qO rfl))) (by kernel_rfl) ?_))
  refine RP.r rfl (OpR.on' rfl rfl (by repeat (first | with_reducible (first | exact qS | assumption) | refine qN rfl ?_ | exact qO rfl)) (op_load (qT (by repeat (first | with_reducible (first | exact qS | assumption) | refine qN rfl ?_ | exact qO rfl))) (loadA_cell (by kernel_rfl) v1 (by omega) v2) ?_))
  refine RP.p rfl (OpP.on' rfl rfl (by repeat (first | with_reducible (first | exact qS | assumption) | refine qN rfl ?_ | exact qO rfl)) (op_bin (qT (by repeat (first | with_reducible (first | exact qS | assumption) | refine qN rfl ?_ | exact qO rfl))) rfl (bin_neq_nil Tryz.underlying27) ?_))
  refine RP.p rfl (op_pick_t (qT (by repeat (first | with_reducible (first | exact qS | assumption) | refine qN rfl ?_ | exact qO rfl))) (qT (by repeat (first | with_reducible (first | exact qS | assumption) | refine qN rfl ?_ | exact qO rfl))) ?_)
  refine RP.p rfl (op_assign (qT (by repeat (first | with_reducible (first | exact qS | assumption) | refine qN rfl ?_ | exact qO rfl))) ?_)
  refine RP.nil ?_
  exact Gives.ret0 (RS.one (by repeat (first | with_reducible (first | exact qS | assumption) | refine qN rfl ?_ | exact qO rfl)) ⟨rfl, rfl⟩)
theorem room_spec {d : Nat} (hS : SOk S) {bv bm start half : Nat} (hV : Vlt h bv bm start half) : CS Tryz.prog X S L (d + 2) 34 [.ptr bv 0] h (fun v h' => v = .int .i64 (.ofNat (4 * (half - 3))) ∧ h = h') := by
  obtain ⟨cv, v1, v2, v3, v4⟩ := hV.v
  have hh4 := hV.h4
  have hhh := hV.hh
  refine CS.of (rs := [.tmp 2]) (hS.none _ (by decide) (by decide)) Tryz.func34 rfl rfl ?_
  refine Gives.seq ?_
  refine Gives.region [.p 0] (by kernel_rfl) ?_
  refine RP.p rfl (op_assign (show ev _ _ = some (.int .i64 (.ofNat 0)) from rfl) ?_)
  refine RP.nil ?_
  refine Gives.seq ?_
  refine Gives.seq ?_
  refine Gives.region [.p 0, .e 1 [], .p 2] (by kernel_rfl) ?_
  refine RP.p rfl (op_move (qT (by repeat (first | with_reducible (first | exact qS | assumption) | refine qN rfl ?_ | exact qO rfl))) ?_)
  refine RP.e rfl (op_calls (evs_cons (qT (by repeat (first | with_reducible (first | exact qS | assumption) | refine qN rfl ?_ | exact qO rfl))) evs_nil) (by kernel_rfl) (usable_spec hS hV) ?_)
  rintro v h' ⟨rfl, rfl⟩
  refine RP.p rfl (op_notT (qT (by repeat (first | with_reducible (first | exact qS | assumption) | refine qN rfl ?_ | exact qO rfl))) ?_)
  refine RP.nil ?_
  refine Gives.else_ (qT (by repeat (first | with_reducible (first | exact qS | assumption) | refine qN rfl ?_ | exact qO rfl))) ?_
  refine Gives.skip ?_
  refine Gives.seq ?_
  refine Gives.region [.p 0, .p 1, .p 2, .r 3, .p 4, .p 5, .p 6] (by kernel_rfl) ?_
  refine RP.p rfl (op_move (qT (by repeat (first | with_reducible (first | exact qS | assumption) | refine qN rfl ?_ | exact qO rfl))) ?_)
  refine RP.p rfl (op_nilCheck (qT (by repeat (first | with_reducible (first | exact qS | assumption) | refine qN rfl ?_ | exact qO rfl))) ?_)
  refine RP.p rfl (op_fieldAddr (off := 2) (qT (by repeat (first | with_reducible (first | exact qS | assumption) | refine qN rfl ?_ | exact qO rfl))) (by kernel_rfl) ?_)
  refine RP.r rfl (op_load (qT (by repeat (first | with_reducible (first | exact qS | assumption) | refine qN rfl ?_ | exact qO rfl))) (loadA_cell (by kernel_rfl) v1 (by omega) v4) ?_)
  refine RP.p rfl (op_bin (qT (by repeat (first | with_reducible (first | exact qS | assumption) | refine qN rfl ?_ | exact qO rfl))) (show ev _ _ = some (.int .i64 (.ofNat 3)) from rfl) (bin_sub (by omega) (by have e1 : topK .i64 = 9223372036854775808 := rfl; have e2 : topK .u32 = 4294967296 := rfl; have e3 : topK .u64 = 18446744073709551616 := rfl; have e4 : topK .u8 = 256 := rfl; have e5 : topK .u16 = 65536 := rfl; omega)) ?_)
  refine RP.p rfl (op_bin (show ev _ _ = some (.int .i64 (.ofNat 4)) from rfl) (qT (by repeat (first | with_reducible (first | exact qS | assumption) | refine qN rfl ?_ | exact qO rfl))) (bin_mul (by have e1 : topK .i64 = 9223372036854775808 := rfl; have e2 : topK .u32 = 4294967296 := rfl; have e3 : topK .u64 = 18446744073709551616 := rfl; have e4 : topK .u8 = 256 := rfl; have e5 : topK .u16 = 65536 := rfl; omega)) ?_)
  refine RP.p rfl (op_assign (qT (by repeat (first | with_reducible (first | exact qS | assumption) | refine qN rfl ?_ | exact qO rfl))) ?_)
  refine RP.nil ?_
  exact Gives.ret0 (RS.one (by repeat (first | with_reducible (first | exact qS | assumption) | refine qN rfl ?_ | exact qO rfl)) ⟨rfl, rfl⟩)
theorem wrap64 {z : Int} (h1 : -9223372036854775808 ≤ z) (h2 : z < 9223372036854775808) : IntKind.i64.wrap z = z := by
  simp only [IntKind.wrap, IntKind.bits, IntKind.signed]
  simp
  omega
def fits (n : Nat) (start len : Int) : Prop := 0 ≤ start ∧ 8 ≤ len ∧ len ≤ n - start
theorem open_spec {d : Nat} (hS : SOk S) (hL : 100 ≤ L) {bm bw n : Nat} {D : Nat → Nat} {Z : Nat → Prop} (hM : Mem h bm bw n D Z) (start len : Int) (hs : start < 9223372036854775808) (hl : len < 9223372036854775808) :
    CS Tryz.prog X S L (d + 6) 6 [.ptr bm 0, .int .i64 start, .int .i64 len] h (fun v h' => Mem h' bm bw n D Z ∧ Fr (two bm bw) h h' ∧
      ((¬ fits n start len ∧ v = .tup [.pnil, .int .i64 (.ofNat 1)]) ∨ (fits n start len ∧ ∃ bv, h.next ≤ bv ∧ v = .tup [.ptr bv 0, .int .i64 (.ofNat 0)] ∧ Vlt h' bv bm start.toNat (len.toNat / 2)))) := by
  have hnle := hM.le
  refine CS.of (rs := [.tmp 6, .tmp 7]) (hS.none _ (by decide) (by decide)) Tryz.func6 rfl rfl ?_
  refine Gives.seq ?_
  refine Gives.region [.p 0, .p 1] (by kernel_rfl) ?_
  refine RP.p rfl (op_assign rfl ?_)
  refine RP.p rfl (op_assign (show ev _ _ = some (.int .i64 (.ofNat 0)) from rfl) ?_)
  refine RP.nil ?_
  refine Gives.seq ?_
  refine Gives.seq ?_
  refine Gives.region [.p 0, .e 1 [], .p 2, .p 3, .p 4, .p 5, .p 6] (by kernel_rfl) ?_
  refine RP.p rfl (op_move (qT (by repeat (first | with_reducible (first | exact qS | assumption) | refine qN rfl ?_ | exact qO rfl))) ?_)
  refine RP.e rfl (op_calls (evs_cons (qT (by repeat (first | with_reducible (first | exact qS | assumption) | refine qN rfl ?_ | exact qO rfl))) (evs_cons (show ev _ _ = some (.int .i64 (.negSucc 0)) from rfl) evs_nil)) (by kernel_rfl) (mread_spec hS hL hM _) ?_)
  rintro v h1 ⟨rfl, hM1, hF1⟩
  rw [if_neg (by simp)]
  refine RP.p rfl (op_move (qT (by repeat (first | with_reducible (first | exact qS | assumption) | refine qN rfl ?_ | exact qO rfl))) ?_)
  refine RP.p rfl (op_extract (qT (by repeat (first | with_reducible (first | exact qS | assumption) | refine qN rfl ?_ | exact qO rfl))) rfl ?_)
  refine RP.p rfl (op_extract (qT (by repeat (first | with_reducible (first | exact qS | assumption) | refine qN rfl ?_ | exact qO rfl))) rfl ?_)
  refine RP.p rfl (op_assign (qT (by repeat (first | with_reducible (first | exact qS | assumption) | refine qN rfl ?_ | exact qO rfl))) ?_)
  refine RP.p rfl (op_assign (qT (by repeat (first | with_reducible (first | exact qS | assumption) | refine qN rfl ?_ | exact qO rfl))) ?_)
  refine RP.nil ?_
  refine Gives.seq ?_
  refine Gives.region [.p 0, .p 1] (by kernel_rfl) ?_
  refine RP.p rfl (op_move (qT (by repeat (first | with_reducible (first | exact qS | assumption) | refine qN rfl ?_ | exact qO rfl))) ?_)
  refine RP.p rfl (op_bin (qT (by repeat (first | with_reducible (first | exact qS | assumption) | refine qN rfl ?_ | exact qO rfl))) (show ev _ _ = some (.int .i64 (.ofNat 2)) from rfl) (bin_eql_f (by decide)) ?_)
  refine RP.nil ?_
  refine Gives.else_ (qT (by repeat (first | with_reducible (first | exact qS | assumption) | refine qN rfl ?_ | exact qO rfl))) ?_
  refine Gives.skip ?_
  refine Gives.seq ?_
  refine Gives.seq ?_
  refine Gives.region [.p 0, .p 1, .p 2, .p 3, .p 4, .p 5, .p 6, .p 7, .p 8, .e 9 [], .p 10, .p 11, .p 12, .p 13] (by kernel_rfl) ?_
  by_cases hc : start < 0
  · have e1 : decide (start < Int.ofNat 0) = true := by simp; omega
    refine RP.p rfl (op_move (qT (by repeat (first | with_reducible (first | exact qS | assumption) | refine qN rfl ?_ | exact qO rfl))) ?_)
    refine RP.p rfl (op_bin (qT (by repeat (first | with_reducible (first | exact qS | assumption) | refine qN rfl ?_ | exact qO rfl))) (show ev _ _ = some (.int .i64 (.ofNat 0)) from rfl) bin_lss ?_)
    rw [e1]
    refine RP.p rfl (op_move (qT (by repeat (first | with_reducible (first | exact qS | assumption) | refine qN rfl ?_ | exact qO rfl))) ?_)
    refine RP.p rfl (OpP.offT rfl rfl (by repeat (first | with_reducible (first | exact qS | assumption) | refine qN rfl ?_ | exact qO rfl)) ?_)
    refine RP.p rfl (OpP.offT rfl rfl (by repeat (first | with_reducible (first | exact qS | assumption) | refine qN rfl ?_ | exact qO rfl)) ?_)
    refine RP.p rfl (op_pick_t (qT (by repeat (first | with_reducible (first | exact qS | assumption) | refine qN rfl ?_ | exact qO rfl))) rfl ?_)
    refine RP.p rfl (op_move (qT (by repeat (first | with_reducible (first | exact qS | assumption) | refine qN rfl ?_ | exact qO rfl))) ?_)
    refine RP.p rfl (OpP.offT rfl rfl (by repeat (first | with_reducible (first | exact qS | assumption) | refine qN rfl ?_ | exact qO rfl)) ?_)
    refine RP.p rfl (OpP.offT rfl rfl (by repeat (first | with_reducible (first | exact qS | assumption) | refine qN rfl ?_ | exact qO rfl)) ?_)
    refine RP.e rfl (OpE.offT rfl rfl (by repeat (first | with_reducible (first | exact qS | assumption) | refine qN rfl ?_ | exact qO rfl)) ?_)
    refine RP.p rfl (OpP.offT rfl rfl (by repeat (first | with_reducible (first | exact qS | assumption) | refine qN rfl ?_ | exact qO rfl)) ?_)
    refine RP.p rfl (OpP.offT rfl rfl (by repeat (first | with_reducible (first | exact qS | assumption) | refine qN rfl ?_ | exact qO rfl)) ?_)
    refine RP.p rfl (OpP.offT rfl rfl (by repeat (first | with_reducible (first | exact qS | assumption) | refine qN rfl ?_ | exact qO rfl)) ?_)
    refine RP.p rfl (op_pick_t (qT (by repeat (first | with_reducible (first | exact qS | assumption) | refine qN rfl ?_ | exact qO rfl))) rfl ?_)
    refine RP.nil ?_
    refine Gives.then_ (qT (by repeat (first | with_reducible (first | exact qS | assumption) | refine qN rfl ?_ | exact qO rfl))) ?_
    refine Gives.seq ?_
    refine Gives.region [.p 0, .p 1] (by kernel_rfl) ?_
    refine RP.p rfl (op_assign rfl ?_)
    refine RP.p rfl (op_assign (show ev _ _ = some (.int .i64 (.ofNat 1)) from rfl) ?_)
    refine RP.nil ?_
    exact Gives.ret0 (RS.two (by repeat (first | with_reducible (first | exact qS | assumption) | refine qN rfl ?_ | exact qO rfl)) (by repeat (first | with_reducible (first | exact qS | assumption) | refine qN rfl ?_ | exact qO rfl)) ⟨hM1, hF1, .inl ⟨fun hf => by have := hf.1; omega, rfl⟩⟩)
  have e1 : decide (start < Int.ofNat 0) = false := by simp; omega
  by_cases hc2 : len < 8
  · have e2 : decide (len < Int.ofNat 8) = true := by simp; omega
    refine RP.p rfl (op_move (qT (by repeat (first | with_reducible (first | exact qS | assumption) | refine qN rfl ?_ | exact qO rfl))) ?_)
    refine RP.p rfl (op_bin (qT (by repeat (first | with_reducible (first | exact qS | assumption) | refine qN rfl ?_ | exact qO rfl))) (show ev _ _ = some (.int .i64 (.ofNat 0)) from rfl) bin_lss ?_)
    rw [e1]
    refine RP.p rfl (op_move (qT (by repeat (first | with_reducible (first | exact qS | assumption) | refine qN rfl ?_ | exact qO rfl))) ?_)
    refine RP.p rfl (OpP.on' rfl rfl (by repeat (first | with_reducible (first | exact qS | assumption) | refine qN rfl ?_ | exact qO rfl)) (op_move (qT (by repeat (first | with_reducible (first | exact qS | assumption) | refine qN rfl ?_ | exact qO rfl))) ?_))
    refine RP.p rfl (OpP.on' rfl rfl (by repeat (first | with_reducible (first | exact qS | assumption) | refine qN rfl ?_ | exact qO rfl)) (op_bin (qT (by repeat (first | with_reducible (first | exact qS | assumption) | refine qN rfl ?_ | exact qO rfl))) (show ev _ _ = some (.int .i64 (.ofNat 8)) from rfl) bin_lss ?_))
    rw [e2]
    refine RP.p rfl (op_pick_f (qT (by repeat (first | with_reducible (first | exact qS | assumption) | refine qN rfl ?_ | exact qO rfl))) (qT (by repeat (first | with_reducible (first | exact qS | assumption) | refine qN rfl ?_ | exact qO rfl))) ?_)
    refine RP.p rfl (op_move (qT (by repeat (first | with_reducible (first | exact qS | assumption) | refine qN rfl ?_ | exact qO rfl))) ?_)
    refine RP.p rfl (OpP.offT rfl rfl (by repeat (first | with_reducible (first | exact qS | assumption) | refine qN rfl ?_ | exact qO rfl)) ?_)
    refine RP.p rfl (OpP.offT rfl rfl (by repeat (first | with_reducible (first | exact qS | assumption) | refine qN rfl ?_ | exact qO rfl)) ?_)
    refine RP.e rfl (OpE.offT rfl rfl (by repeat (first | with_reducible (first | exact qS | assumption) | refine qN rfl ?_ | exact qO rfl)) ?_)
    refine RP.p rfl (OpP.offT rfl rfl (by repeat (first | with_reducible (first | exact qS | assumption) | refine qN rfl ?_ | exact qO rfl)) ?_)
    refine RP.p rfl (OpP.offT rfl rfl (by repeat (first | with_reducible (first | exact qS | assumption) | refine qN rfl ?_ | exact qO rfl)) ?_)
    refine RP.p rfl (OpP.offT rfl rfl (by repeat (first | with_reducible (first | exact qS | assumption) | refine qN rfl ?_ | exact qO rfl)) ?_)
    refine RP.p rfl (op_pick_t (qT (by repeat (first | with_reducible (first | exact qS | assumption) | refine qN rfl ?_ | exact qO rfl))) rfl ?_)
    refine RP.nil ?_
    refine Gives.then_ (qT (by repeat (first | with_reducible (first | exact qS | assumption) | refine qN rfl ?_ | exact qO rfl))) ?_
    refine Gives.seq ?_
    refine Gives.region [.p 0, .p 1] (by kernel_rfl) ?_
    refine RP.p rfl (op_assign rfl ?_)
    refine RP.p rfl (op_assign (show ev _ _ = some (.int .i64 (.ofNat 1)) from rfl) ?_)
    refine RP.nil ?_
    exact Gives.ret0 (RS.two (by repeat (first | with_reducible (first | exact qS | assumption) | refine qN rfl ?_ | exact qO rfl)) (by repeat (first | with_reducible (first | exact qS | assumption) | refine qN rfl ?_ | exact qO rfl)) ⟨hM1, hF1, .inl ⟨fun hf => by have := hf.2.1; omega, rfl⟩⟩)
  have e2 : decide (len < Int.ofNat 8) = false := by simp; omega
  refine RP.p rfl (op_move (qT (by repeat (first | with_reducible (first | exact qS | assumption) | refine qN rfl ?_ | exact qO rfl))) ?_)
  refine RP.p rfl (op_bin (qT (by repeat (first | with_reducible (first | exact qS | assumption) | refine qN rfl ?_ | exact qO rfl))) (show ev _ _ = some (.int .i64 (.ofNat 0)) from rfl) bin_lss ?_)
  rw [e1]
  refine RP.p rfl (op_move (qT (by repeat (first | with_reducible (first | exact qS | assumption) | refine qN rfl ?_ | exact qO rfl))) ?_)
  refine RP.p rfl (OpP.on' rfl rfl (by repeat (first | with_reducible (first | exact qS | assumption) | refine qN rfl ?_ | exact qO rfl)) (op_move (qT (by repeat (first | with_reducible (first | exact qS | assumption) | refine qN rfl ?_ | exact qO rfl))) ?_))
  refine RP.p rfl (OpP.on' rfl rfl (by repeat (first | with_reducible (first | exact qS | assumption) | refine qN rfl ?_ | exact qO rfl)) (op_bin (qT (by repeat (first | with_reducible (first | exact qS | assumption) | refine qN rfl ?_ | exact qO rfl))) (show ev _ _ = some (.int .i64 (.ofNat 8)) from rfl) bin_lss ?_))
  rw [e2]
  refine RP.p rfl (op_pick_f (qT (by repeat (first | with_reducible (first | exact qS | assumption) | refine qN rfl ?_ | exact qO rfl))) (qT (by repeat (first | with_reducible (first | exact qS | assumption) | refine qN rfl ?_ | exact qO rfl))) ?_)
  refine RP.p rfl (op_move (qT (by repeat (first | with_reducible (first | exact qS | assumption) | refine qN rfl ?_ | exact qO rfl))) ?_)
  refine RP.p rfl (OpP.on' rfl rfl (by repeat (first | with_reducible (first | exact qS | assumption) | refine qN rfl ?_ | exact qO rfl)) (op_move (qT (by repeat (first | with_reducible (first | exact qS | assumption) | refine qN rfl ?_ | exact qO rfl))) ?_))
  refine RP.p rfl (OpP.on' rfl rfl (by repeat (first | with_reducible (first | exact qS | assumption) | refine qN rfl ?_ | exact qO rfl)) (op_move (qT (by repeat (first | with_reducible (first | exact qS | assumption) | refine qN rfl ?_ | exact qO rfl))) ?_))
  refine RP.e rfl (OpE.on' rfl rfl (by repeat (first | with_reducible (first | exact qS | assumption) | refine qN rfl ?_ | exact qO rfl)) (op_calls (evs_cons (qT (by repeat (first | with_reducible (first | exact qS | assumption) | refine qN rfl ?_ | exact qO rfl))) evs_nil) (by kernel_rfl) (msize_spec hS hM1) ?_))
  rintro v h' ⟨rfl, rfl⟩
  refine RP.p rfl (OpP.on' rfl rfl (by repeat (first | with_reducible (first | exact qS | assumption) | refine qN rfl ?_ | exact qO rfl)) (op_move (qT (by repeat (first | with_reducible (first | exact qS | assumption) | refine qN rfl ?_ | exact qO rfl))) ?_))
  refine RP.p rfl (OpP.on' rfl rfl (by repeat (first | with_reducible (first | exact qS | assumption) | refine qN rfl ?_ | exact qO rfl)) (op_bin (qT (by repeat (first | with_reducible (first | exact qS | assumption) | refine qN rfl ?_ | exact qO rfl))) (qT (by repeat (first | with_reducible (first | exact qS | assumption) | refine qN rfl ?_ | exact qO rfl))) bin_subI ?_))
  rw [wrap64 (z := Int.ofNat n - start) (by simp; omega) (by simp; omega)]
  refine RP.p rfl (OpP.on' rfl rfl (by repeat (first | with_reducible (first | exact qS | assumption) | refine qN rfl ?_ | exact qO rfl)) (op_bin (qT (by repeat (first | with_reducible (first | exact qS | assumption) | refine qN rfl ?_ | exact qO rfl))) (qT (by repeat (first | with_reducible (first | exact qS | assumption) | refine qN rfl ?_ | exact qO rfl))) bin_gtr ?_))
  refine RP.p rfl (op_pick_f (qT (by repeat (first | with_reducible (first | exact qS | assumption) | refine qN rfl ?_ | exact qO rfl))) (qT (by repeat (first | with_reducible (first | exact qS | assumption) | refine qN rfl ?_ | exact qO rfl))) ?_)
  refine RP.nil ?_
  refine Gives.cond (qT (by repeat (first | with_reducible (first | exact qS | assumption) | refine qN rfl ?_ | exact qO rfl))) (fun hb => ?_) (fun hb => ?_)
  · have hb := of_decide_eq_true hb
    refine Gives.seq ?_
    refine Gives.region [.p 0, .p 1] (by kernel_rfl) ?_
    refine RP.p rfl (op_assign rfl ?_)
    refine RP.p rfl (op_assign (show ev _ _ = some (.int .i64 (.ofNat 1)) from rfl) ?_)
    refine RP.nil ?_
    exact Gives.ret0 (RS.two (by repeat (first | with_reducible (first | exact qS | assumption) | refine qN rfl ?_ | exact qO rfl)) (by repeat (first | with_reducible (first | exact qS | assumption) | refine qN rfl ?_ | exact qO rfl)) ⟨hM1, hF1, .inl ⟨fun hf => by have := hf.2.2; simp at hb; omega, rfl⟩⟩)
  have hb := of_decide_eq_false hb
  have hb : len ≤ n - start := by simp at hb; omega
  obtain ⟨st, rfl⟩ : ∃ s : Nat, start = .ofNat s := ⟨start.toNat, by simp; omega⟩
  obtain ⟨le, rfl⟩ : ∃ s : Nat, len = .ofNat s := ⟨len.toNat, by simp; omega⟩
  have b1 : 8 ≤ le := by simp at hc2; omega
  have b2 : le + st ≤ n := by simp at hb; omega
  refine Gives.skip ?_
  refine Gives.seq ?_
  refine Gives.region [.p 0, .p 1, .p 2, .p 3, .p 4, .p 5, .p 6, .p 7] (by kernel_rfl) ?_
  refine RP.p rfl (op_move (qT (by repeat (first | with_reducible (first | exact qS | assumption) | refine qN rfl ?_ | exact qO rfl))) ?_)
  refine RP.p rfl (op_move (qT (by repeat (first | with_reducible (first | exact qS | assumption) | refine qN rfl ?_ | exact qO rfl))) ?_)
  refine RP.p rfl (op_move (qT (by repeat (first | with_reducible (first | exact qS | assumption) | refine qN rfl ?_ | exact qO rfl))) ?_)
  refine RP.p rfl (op_bin (qT (by repeat (first | with_reducible (first | exact qS | assumption) | refine qN rfl ?_ | exact qO rfl))) (show ev _ _ = some (.int .i64 (.ofNat 2)) from rfl) (bin_quo (by omega) (by have e1 : topK .i64 = 9223372036854775808 := rfl; have e2 : topK .u32 = 4294967296 := rfl; have e3 : topK .u64 = 18446744073709551616 := rfl; have e4 : topK .u8 = 256 := rfl; have e5 : topK .u16 = 65536 := rfl; omega)) ?_)
  refine RP.p rfl (op_build (z := .agg [.pnil, .int .i64 (.ofNat 0), .int .i64 (.ofNat 0)]) (cs := [.ptr bm 0, .int .i64 (.ofNat st), .int .i64 (.ofNat (le / 2))]) (by kernel_rfl) Tryz.underlying75 (evParts_cons (qT (by repeat (first | with_reducible (first | exact qS | assumption) | refine qN rfl ?_ | exact qO rfl))) (evParts_cons (qT (by repeat (first | with_reducible (first | exact qS | assumption) | refine qN rfl ?_ | exact qO rfl))) (evParts_cons (qT (by repeat (first | with_reducible (first | exact qS | assumption) | refine qN rfl ?_ | exact qO rfl))) evParts_nil))) (by kernel_rfl) (by kernel_rfl) ?_)
  refine RP.p rfl (op_box (qT (by repeat (first | with_reducible (first | exact qS | assumption) | refine qN rfl ?_ | exact qO rfl))) ?_)
  refine RP.p rfl (op_assign (qT (by repeat (first | with_reducible (first | exact qS | assumption) | refine qN rfl ?_ | exact qO rfl))) ?_)
  refine RP.p rfl (op_assign (show ev _ _ = some (.int .i64 (.ofNat 0)) from rfl) ?_)
  refine RP.nil ?_
  have hF2 := hF1.new (.cells 3 (ofL [.ptr bm 0, .int .i64 (.ofNat st), .int .i64 (.ofNat (le / 2))]))
  have hM2 := hM1.fr (B := fun _ => False) ((Fr.refl hM1.wf).new (.cells 3 (ofL [.ptr bm 0, .int .i64 (.ofNat st), .int .i64 (.ofNat (le / 2))]))) id id
  refine Gives.ret0 (RS.two (by repeat (first | with_reducible (first | exact qS | assumption) | refine qN rfl ?_ | exact qO rfl)) (by repeat (first | with_reducible (first | exact qS | assumption) | refine qN rfl ?_ | exact qO rfl)) ⟨hM2, hF2, .inr ⟨⟨by simp, by show (8 : Int) ≤ (le : Int); omega, by simp; omega⟩, h1.next, hF1.next, rfl, ⟨_, obj_new_same (by simp), qO rfl, qO rfl, qO rfl⟩, ?_, ?_, ?_⟩⟩)
  · show st ≤ 65536; omega
  · show 4 ≤ le / 2; omega
  · show le / 2 ≤ 65536; omega
end Go.Abs

/- Rows that are appended to, and the writer of octets. No condition. -/
namespace Go.Abs
open Go.Proofs
variable {X : Ext0} {S : Sums} {L : Nat} {h : H}
def Row (h : H) (v : AV) (l : List AV) : Prop :=
  (v = .snil ∧ l = []) ∨ ∃ b c, v = .slice b 0 l.length l.length 1 false ∧ h.obj b = some (.cells l.length c) ∧ ∀ i, i < l.length → c.at i = l[i]?
def blkOf (v : AV) : Nat → Prop := fun b => match v with
  | .slice b' .. => b = b'
  | _ => False
theorem Row.fr {h h' : H} {v : AV} {l : List AV} (r : Row h v l) (w : WF h) {B : Nat → Prop} (f : Fr B h h') (hn : ∀ b, blkOf v b → ¬ B b) : Row h' v l := by
  rcases r with r | ⟨b, c, rfl, h1, h2⟩
  · exact .inl r
  · exact .inr ⟨b, c, rfl, f.get w h1 (hn b rfl), h2⟩
theorem append_row {s x : AV} {l : List AV} {bytes : Nat} (hw : WF h) (hr : Row h s l) (hb1 : bytes ≤ 8) (hb2 : l.length < 1000000) :
    ∃ v h', appendTo h 1 bytes s 1 [x] = some (v, h') ∧ Row h' v (l ++ [x]) ∧ Fr (blkOf s) h h' ∧ (∀ b, blkOf v b → b = h.next) := by
  rcases hr with ⟨rfl, rfl⟩ | ⟨b, c, rfl, h1, h2⟩
  · refine ⟨.slice h.next 0 1 1 1 false, h.new (.cells 1 (ofL [x])), ?_, .inr ⟨h.next, _, rfl, obj_new_same (by simp), fun i hi => ?_⟩, (Fr.refl hw).new _, fun b hb => hb⟩
    · have e1 : (Nat.ble (2 * 1 * bytes) 281474976710656 && Nat.ble 1 4611686018427387904) = true := by simp; omega
      unfold appendTo
      rw [forceL_eq]
      simp only [e1, cond_true, H.rowK_ofL]
      rfl
    · have hi : i < 1 := hi
      obtain rfl : i = 0 := by omega
      exact qO rfl
  · have hlt := hw.lt h1
    refine ⟨.slice h.next 0 (l.length + 1) (l.length + 1) 1 false, (h.set b .dead).new (.cells (l.length + 1) (c.put l.length x)), ?_, .inr ⟨h.next, c.put l.length x, by simp, ?_, fun i hi => ?_⟩, ((Fr.refl hw).set (B := blkOf (.slice b 0 l.length l.length 1 false)) _ hlt fun _ => (rfl : b = b)).new _, fun b hb => hb⟩
    · have e1 : (Nat.ble (2 * (l.length + 1) * bytes) 281474976710656 && Nat.ble (l.length + 1) 4611686018427387904) = true := by
        have : 2 * (l.length + 1) * bytes ≤ 2 * (l.length + 1) * 8 := Nat.mul_le_mul_left _ hb1
        simp; omega
      have e2 : Nat.ble (l.length + 1) l.length = false := by
        cases hh : Nat.ble (l.length + 1) l.length with
        | false => rfl
        | true => have := Nat.le_of_ble_eq_true hh; omega
      have e5 : Nat.ble l.length l.length = true := Nat.ble_eq_true_of_le (Nat.le_refl _)
      have e3 : Nat.beq 1 1 = true := rfl
      unfold appendTo
      rw [forceL_eq]
      simp only [e1, e2, e3, e5, Bool.and_self, cond_true, cond_false, h1, joinK_eq, joinT, Bool.false_and, Nat.beq_refl, forceN_eq, H.setK_eq, H.newK_eq, List.length_cons, List.length_nil, Nat.zero_add, Nat.mul_one]
      rfl
    · rw [List.length_append]
      exact obj_new_same (h := h.set b .dead) (by simp)
    · rw [Tr.at_put]
      by_cases e : i = l.length
      · subst e; rw [if_pos rfl]; simp
      · have hi' : i < l.length := by rw [List.length_append] at hi; have : i < l.length + 1 := hi; omega
        rw [if_neg e, h2 i hi', List.getElem?_append_left hi']
section
variable {P : Program} {call : CallA} {n : Nat} {F : Fm} {K : Fm → H → Prop} {ops : Array Oper}
variable {ty : TypeId} {pos : String} {af : Array Edge} {chk : List Nat} {d : Nat} {v : AV} {t : TypeId} {x y : Operand} {k : IntKind}
theorem op_append {s u : AV} {h' : H} (hx : ev F x = some s) (hy : ev F y = some u) (ha : appendA P h [t, t] s u = some (v, h')) (hk : K (F.put d v) h') :
    OpE P X call ops [] ⟨some d, .call ⟨.builtin .append, #[x, y], #[t, t]⟩, ty, pos, af, none⟩ F h K := by
  refine OpE.done (v := v) (h' := h') ?_ rfl hk
  have h1 : evs F (#[x, y] : Array Operand).toList = some [s, u] := evs_cons hx (evs_cons hy evs_nil)
  simp only [effA, eop, h1, ha]
theorem appendA_of {s u : AV} {h' : H} {e : TypeId} {i : TypeInfo} {z : AV} {m : Nat} {news : List AV} (hu : P.underlying t = some (.slice e)) (hi : P.info? e = some i) (hz : zer P e = some z) (hz1 : z.cells.length = 1) (hi1 : i.size = 1)
    (hs : srcA P h t 1 u = some (m, news)) (ha : appendTo h 1 i.bytes s m news = some (v, h')) : appendA P h [t, t] s u = some (v, h') := by
  have e1 : (Nat.beq 1 1 && Nat.blt 0 1) = true := rfl
  simp only [appendA, hu, hi, hz, hz1, hi1, e1, cond_true, hs, ha]
theorem srcA_one {b : Nat} {c : Tr AV} {ex : Bool} {e : TypeId} {w : AV} (hu : P.underlying t = some (.slice e)) (hb : h.obj b = some (.cells 1 c)) (hc : c.at 0 = some w) (hw : w.one = true) : srcA P h t 1 (.slice b 0 1 1 1 ex) = some (1, [w]) := by
  have e1 : (Nat.beq 1 1 && Nat.ble 1 1) = true := rfl
  have e2 : Nat.beq (1 * 1) 0 = false := rfl
  have e3 : Nat.ble (0 + 1 * 1) 1 = true := rfl
  have e4 : gets c 0 (1 * 1) = some [w] := by show (match c.at 0 with | none => none | some v => some [v]) = _; rw [hc]
  simp only [srcA, hu, hb, e2, e3, e4, cond_true, cond_false, List.all_cons, hw, List.all_nil, Bool.and_self]
  rfl
end
theorem Fr.above {h0 h h' : H} {B : Nat → Prop} (a : Fr (fun _ => False) h0 h) (b : Fr B h h') (hB : ∀ c, B c → h0.next ≤ c) : Fr (fun _ => False) h0 h' :=
  ⟨b.wf, Nat.le_trans a.next b.next, fun c hc _ => (b.obj c (Nat.lt_of_lt_of_le hc a.next) fun hb => by have := hB c hb; omega).trans (a.obj c hc id)⟩
theorem wrap8 (a : Nat) : IntKind.u8.wrap (Int.ofNat a) = Int.ofNat (a % 256) := by
  simp [IntKind.wrap, IntKind.bits, IntKind.signed]
theorem op_conv8 {P : Program} {F : Fm} {K : Fm → H → Prop} {ops : Array Oper} {ty : TypeId} {pos : String} {af : Array Edge} {d a : Nat} {x : Operand} {src dst : TypeId} {k' : IntKind} {u : TypeDesc} (hx : ev F x = some (.int k' (.ofNat a))) (hs : P.underlying src = some u) (hd : P.underlying dst = some (.int .u8)) (hk : K (F.put d (.int .u8 (.ofNat (a % 256)))) h) :
    OpP P ops ⟨some d, .convert src dst x, ty, pos, af, none⟩ F h K :=
  .val (by simp only [pop, hx, convA, hs, hd, wrap8]; rfl) hk
theorem info5 : ∃ i, Tryz.prog.info? 5 = some i ∧ i.size = 1 ∧ i.bytes = 1 := by
  have h : (Tryz.prog.info? 5).map (fun i => (i.size, i.bytes)) = some (1, 1) := by kernel_rfl
  cases hi : Tryz.prog.info? 5 with
  | none => rw [hi] at h; cases h
  | some i => rw [hi] at h; simp only [Option.map_some, Option.some.injEq, Prod.mk.injEq] at h; exact ⟨i, rfl, h⟩
theorem info35 : ∃ i, Tryz.prog.info? 35 = some i ∧ i.size = 1 ∧ i.bytes = 4 := by
  have h : (Tryz.prog.info? 35).map (fun i => (i.size, i.bytes)) = some (1, 4) := by kernel_rfl
  cases hi : Tryz.prog.info? 35 with
  | none => rw [hi] at h; cases h
  | some i => rw [hi] at h; simp only [Option.map_some, Option.some.injEq, Prod.mk.injEq] at h; exact ⟨i, rfl, h⟩
def u8L (l : List Nat) : List AV := l.map fun x => .int .u8 (.ofNat x)
theorem u8L_length (l : List Nat) : (u8L l).length = l.length := List.length_map ..
theorem u8L_append (l m : List Nat) : u8L (l ++ m) = u8L l ++ u8L m := List.map_append ..
structure Wr (h : H) (N bw : Nat) (l : List Nat) : Prop where
  ge : N ≤ bw
  w : ∃ cw s, h.obj bw = some (.cells 2 cw) ∧ cw.at 0 = some (.bool true) ∧ cw.at 1 = some s ∧ Row h s (u8L l) ∧ ∀ b, blkOf s b → N ≤ b ∧ b ≠ bw
theorem wnew_spec {d : Nat} (hS : SOk S) (hw : WF h) : CS Tryz.prog X S L (d + 1) 111 [] h (fun v h' => ∃ bw, v = .ptr bw 0 ∧ Wr h' h.next bw [] ∧ Fr (fun _ => False) h h') := by
  refine CS.of (rs := [.tmp 0]) (hS.none _ (by decide) (by decide)) Tryz.func111 rfl rfl ?_
  refine Gives.seq ?_
  refine Gives.region [.p 0] (by kernel_rfl) ?_
  refine RP.p rfl (op_assign rfl ?_)
  refine RP.nil ?_
  refine Gives.seq ?_
  refine Gives.region [.p 0, .p 1, .p 2] (by kernel_rfl) ?_
  refine RP.p rfl (op_build (z := .agg [.bool false, .snil]) (cs := [.bool true, .snil]) (by kernel_rfl) Tryz.underlying378 (evParts_cons rfl evParts_nil) (by kernel_rfl) (by kernel_rfl) ?_)
  refine RP.p rfl (op_box (qT (by repeat (first | with_reducible (first | exact qS | assumption) | refine qN rfl ?_ | exact qO rfl))) ?_)
  refine RP.p rfl (op_assign (qT (by repeat (first | with_reducible (first | exact qS | assumption) | refine qN rfl ?_ | exact qO rfl))) ?_)
  refine RP.nil ?_
  exact Gives.ret0 (RS.one (by repeat (first | with_reducible (first | exact qS | assumption) | refine qN rfl ?_ | exact qO rfl)) ⟨h.next, rfl, ⟨Nat.le_refl _, _, .snil, obj_new_same (by simp), qO rfl, qO rfl, .inl ⟨rfl, rfl⟩, fun b hb => hb.elim⟩, (Fr.refl hw).new _⟩)
theorem wok_spec {d : Nat} (hS : SOk S) {N bw : Nat} {l : List Nat} (hW : Wr h N bw l) : CS Tryz.prog X S L (d + 1) 198 [.ptr bw 0] h (fun v h' => v = .bool true ∧ h = h') := by
  obtain ⟨cw, s, g1, g2, g3, _⟩ := hW.w
  refine CS.of (rs := [.tmp 2]) (hS.none _ (by decide) (by decide)) Tryz.func198 rfl rfl ?_
  refine Gives.seq ?_
  refine Gives.region [.p 0] (by kernel_rfl) ?_
  refine RP.p rfl (op_assign rfl ?_)
  refine RP.nil ?_
  refine Gives.seq ?_
  refine Gives.region [.p 0, .p 1, .p 2, .p 3, .p 4, .p 5, .r 6, .p 7, .p 8] (by kernel_rfl) ?_
  refine RP.p rfl (op_move (qT (by repeat (first | with_reducible (first | exact qS | assumption) | refine qN rfl ?_ | exact qO rfl))) ?_)
  refine RP.p rfl (op_bin (qT (by repeat (first | with_reducible (first | exact qS | assumption) | refine qN rfl ?_ | exact qO rfl))) rfl (bin_neq_nil Tryz.underlying228) ?_)
  refine RP.p rfl (op_move (qT (by repeat (first | with_reducible (first | exact qS | assumption) | refine qN rfl ?_ | exact qO rfl))) ?_)
  refine RP.p rfl (OpP.on' rfl rfl (by repeat (first | with_reducible (first | exact qS | assumption) | refine qN rfl ?_ | exact qO rfl)) (op_move (qT (by repeat (first | with_reducible (first | exact qS | assumption) | refine qN rfl ?_ | exact qO rfl))) ?_))
  refine RP.p rfl (OpP.on' rfl rfl (by repeat (first | with_reducible (first | exact qS | assumption) | refine qN rfl ?_ | exact qO rfl)) (op_nilCheck (qT (by repeat (first | with_reducible (first | exact qS | assumption) | refine qN rfl ?_ | exact qO rfl))) ?_))
  refine RP.p rfl (OpP.on' rfl rfl (by repeat (first | with_reducible (first | exact qS | assumption) | refine qN rfl ?_ | exact qO rfl)) (op_fieldAddr (off := 0) (qT (by repeat (first | with_reducible (first | exact qS | assumption) | refine qN rfl ?_ | exact qO rfl))) (by kernel_rfl) ?_))
  refine RP.r rfl (OpR.on' rfl rfl (by repeat (first | with_reducible (first | exact qS | assumption) | refine qN rfl ?_ | exact qO rfl)) (op_load (qT (by repeat (first | with_reducible (first | exact qS | assumption) | refine qN rfl ?_ | exact qO rfl))) (loadA_cell (by kernel_rfl) g1 (by omega) g2) ?_))
  refine RP.p rfl (op_pick_t (qT (by repeat (first | with_reducible (first | exact qS | assumption) | refine qN rfl ?_ | exact qO rfl))) (qT (by repeat (first | with_reducible (first | exact qS | assumption) | refine qN rfl ?_ | exact qO rfl))) ?_)
  refine RP.p rfl (op_assign (qT (by repeat (first | with_reducible (first | exact qS | assumption) | refine qN rfl ?_ | exact qO rfl))) ?_)
  refine RP.nil ?_
  exact Gives.ret0 (RS.one (by repeat (first | with_reducible (first | exact qS | assumption) | refine qN rfl ?_ | exact qO rfl)) ⟨rfl, rfl⟩)
def octT (x k : Nat) : List Nat := (oct4 x).take k
theorem octT_succ (x k : Nat) (hk : k < 4) : octT x (k + 1) = octT x k ++ [x / 2 ^ (8 * (3 - k)) % 256] := by
  obtain rfl | rfl | rfl | rfl : k = 0 ∨ k = 1 ∨ k = 2 ∨ k = 3 := by omega
  all_goals rfl
theorem wuint_spec {d : Nat} (hS : SOk S) (hL : 100 ≤ L) {h0 : H} {bw x : Nat} {l : List Nat} (hF : Fr (fun _ => False) h0 h) (hW : Wr h h0.next bw l) (_hx : x < 4294967296) (hl : l.length < 900000) :
    CS Tryz.prog X S L (d + 2) 112 [.ptr bw 0, .int .u64 (.ofNat x), .int .i64 (.ofNat 4)] h (fun _v h' => Wr h' h0.next bw (l ++ oct4 x) ∧ Fr (fun _ => False) h0 h') := by
  refine CS.of (rs := [.tmp 6]) (hS.none _ (by decide) (by decide)) Tryz.func112 rfl rfl ?_
  refine Gives.seq ?_
  refine Gives.region [.p 0] (by kernel_rfl) ?_
  refine RP.p rfl (op_assign rfl ?_)
  refine RP.nil ?_
  refine Gives.seq ?_
  refine Gives.seq ?_
  refine Gives.region [.p 0, .e 1 [], .p 2] (by kernel_rfl) ?_
  refine RP.p rfl (op_move (qT (by repeat (first | with_reducible (first | exact qS | assumption) | refine qN rfl ?_ | exact qO rfl))) ?_)
  refine RP.e rfl (op_calls (evs_cons (qT (by repeat (first | with_reducible (first | exact qS | assumption) | refine qN rfl ?_ | exact qO rfl))) evs_nil) (by kernel_rfl) (wok_spec hS hW) ?_)
  rintro v h' ⟨rfl, rfl⟩
  refine RP.p rfl (op_notT (qT (by repeat (first | with_reducible (first | exact qS | assumption) | refine qN rfl ?_ | exact qO rfl))) ?_)
  refine RP.nil ?_
  refine Gives.else_ (qT (by repeat (first | with_reducible (first | exact qS | assumption) | refine qN rfl ?_ | exact qO rfl))) ?_
  refine Gives.skip ?_
  refine Gives.seq ?_
  refine Gives.seq ?_
  refine Gives.region [.p 0, .p 1, .p 2, .p 3, .p 4, .p 5] (by kernel_rfl) ?_
  refine RP.p rfl (op_move (qT (by repeat (first | with_reducible (first | exact qS | assumption) | refine qN rfl ?_ | exact qO rfl))) ?_)
  refine RP.p rfl (op_bin (qT (by repeat (first | with_reducible (first | exact qS | assumption) | refine qN rfl ?_ | exact qO rfl))) (show ev _ _ = some (.int .i64 (.ofNat 1)) from rfl) (bin_lss_f (by omega)) ?_)
  refine RP.p rfl (op_move (qT (by repeat (first | with_reducible (first | exact qS | assumption) | refine qN rfl ?_ | exact qO rfl))) ?_)
  refine RP.p rfl (OpP.on' rfl rfl (by repeat (first | with_reducible (first | exact qS | assumption) | refine qN rfl ?_ | exact qO rfl)) (op_move (qT (by repeat (first | with_reducible (first | exact qS | assumption) | refine qN rfl ?_ | exact qO rfl))) ?_))
  refine RP.p rfl (OpP.on' rfl rfl (by repeat (first | with_reducible (first | exact qS | assumption) | refine qN rfl ?_ | exact qO rfl)) (op_bin (qT (by repeat (first | with_reducible (first | exact qS | assumption) | refine qN rfl ?_ | exact qO rfl))) (show ev _ _ = some (.int .i64 (.ofNat 8)) from rfl) (bin_gtr_f (by omega)) ?_))
  refine RP.p rfl (op_pick_f (qT (by repeat (first | with_reducible (first | exact qS | assumption) | refine qN rfl ?_ | exact qO rfl))) (qT (by repeat (first | with_reducible (first | exact qS | assumption) | refine qN rfl ?_ | exact qO rfl))) ?_)
  refine RP.nil ?_
  refine Gives.else_ (qT (by repeat (first | with_reducible (first | exact qS | assumption) | refine qN rfl ?_ | exact qO rfl))) ?_
  refine Gives.skip ?_
  refine Gives.seq ?_
  refine Gives.seq ?_
  refine Gives.region [.p 0, .p 1, .p 2] (by kernel_rfl) ?_
  refine RP.p rfl (op_move (qT (by repeat (first | with_reducible (first | exact qS | assumption) | refine qN rfl ?_ | exact qO rfl))) ?_)
  refine RP.p rfl (op_bin (qT (by repeat (first | with_reducible (first | exact qS | assumption) | refine qN rfl ?_ | exact qO rfl))) (show ev _ _ = some (.int .i64 (.ofNat 1)) from rfl) (bin_sub (by omega) (by have e1 : topK .i64 = 9223372036854775808 := rfl; have e2 : topK .u32 = 4294967296 := rfl; have e3 : topK .u64 = 18446744073709551616 := rfl; have e4 : topK .u8 = 256 := rfl; have e5 : topK .u16 = 65536 := rfl; omega)) ?_)
  refine RP.p rfl (op_assign (qT (by repeat (first | with_reducible (first | exact qS | assumption) | refine qN rfl ?_ | exact qO rfl))) ?_)
  refine RP.nil ?_
  refine Gives.block ?_
  refine Gives.loop (I := fun k F h' => ∃ j : Int, k ≤ 4 ∧ F.at 0 = some (.ptr bw 0) ∧ F.at 1 = some (.int .u64 (.ofNat x)) ∧ F.at 7 = some (.int .i64 j) ∧ j = (k : Int) - 1 ∧ Wr h' h0.next bw (l ++ octT x (4 - k)) ∧ Fr (fun _ => False) h0 h')
    (fun k F h' hI => ?_) (k := 4) (by omega) ⟨Int.ofNat (4 - 1), Nat.le_refl _, (by repeat (first | with_reducible (first | exact qS | assumption) | refine qN rfl ?_ | exact qO rfl)), (by repeat (first | with_reducible (first | exact qS | assumption) | refine qN rfl ?_ | exact qO rfl)), (by repeat (first | with_reducible (first | exact qS | assumption) | refine qN rfl ?_ | exact qO rfl)), by decide, by simpa [octT] using hW, hF⟩
  clear hW hF
  obtain ⟨j, hk, f0, f1, f7, hj, hW, hF⟩ := hI
  obtain ⟨cw, s, g1, g2, g3, g4, g5⟩ := hW.w
  cases k with
  | zero =>
    have e1 : decide (Int.ofNat 0 ≤ j) = false := by simp; omega
    refine Gives.seq ?_
    refine Gives.seq ?_
    refine Gives.region [.p 0, .p 1] (by kernel_rfl) ?_
    refine RP.p rfl (op_move (qT (by repeat (first | with_reducible (first | exact qS | assumption) | refine qN rfl ?_ | exact qO rfl))) ?_)
    refine RP.p rfl (op_bin (qT (by repeat (first | with_reducible (first | exact qS | assumption) | refine qN rfl ?_ | exact qO rfl))) (show ev _ _ = some (.int .i64 (.ofNat 0)) from rfl) bin_geq ?_)
    rw [e1]
    refine RP.nil ?_
    refine Gives.else_ (qT (by repeat (first | with_reducible (first | exact qS | assumption) | refine qN rfl ?_ | exact qO rfl))) ?_
    refine Gives.exit_same ?_
    refine Gives.seq ?_
    refine Gives.region [.p 0, .p 1] (by kernel_rfl) ?_
    refine RP.p rfl (op_move (qT (by repeat (first | with_reducible (first | exact qS | assumption) | refine qN rfl ?_ | exact qO rfl))) ?_)
    refine RP.p rfl (op_assign (qT (by repeat (first | with_reducible (first | exact qS | assumption) | refine qN rfl ?_ | exact qO rfl))) ?_)
    refine RP.nil ?_
    exact Gives.ret0 (RS.one (by repeat (first | with_reducible (first | exact qS | assumption) | refine qN rfl ?_ | exact qO rfl)) ⟨hW, hF⟩)
  | succ m =>
    have e1 : decide (Int.ofNat 0 ≤ j) = true := by simp; omega
    obtain rfl : j = Int.ofNat m := by simp; omega
    obtain ⟨i5, hi, hi1, hi2⟩ := info5
    have hp : 2 ^ (8 * m) ≤ 2 ^ 24 := Nat.pow_le_pow_right (by decide) (by omega)
    refine Gives.seq ?_
    refine Gives.seq ?_
    refine Gives.region [.p 0, .p 1] (by kernel_rfl) ?_
    refine RP.p rfl (op_move (qT (by repeat (first | with_reducible (first | exact qS | assumption) | refine qN rfl ?_ | exact qO rfl))) ?_)
    refine RP.p rfl (op_bin (qT (by repeat (first | with_reducible (first | exact qS | assumption) | refine qN rfl ?_ | exact qO rfl))) (show ev _ _ = some (.int .i64 (.ofNat 0)) from rfl) bin_geq ?_)
    rw [e1]
    refine RP.nil ?_
    refine Gives.then_ (qT (by repeat (first | with_reducible (first | exact qS | assumption) | refine qN rfl ?_ | exact qO rfl))) ?_
    refine Gives.skip ?_
    refine Gives.seq ?_
    refine Gives.block ?_
    refine Gives.region [.p 0, .p 1, .p 2, .p 3, .r 4, .p 5, .p 6, .p 7, .p 8, .p 9, .p 10, .e 11 [], .p 12, .p 13, .e 14 []] (by kernel_rfl) ?_
    refine RP.p rfl (op_move (qT (by repeat (first | with_reducible (first | exact qS | assumption) | refine qN rfl ?_ | exact qO rfl))) ?_)
    refine RP.p rfl (op_move (qT (by repeat (first | with_reducible (first | exact qS | assumption) | refine qN rfl ?_ | exact qO rfl))) ?_)
    refine RP.p rfl (op_nilCheck (qT (by repeat (first | with_reducible (first | exact qS | assumption) | refine qN rfl ?_ | exact qO rfl))) ?_)
    refine RP.p rfl (op_fieldAddr (off := 1) (qT (by repeat (first | with_reducible (first | exact qS | assumption) | refine qN rfl ?_ | exact qO rfl))) (by kernel_rfl) ?_)
    refine RP.r rfl (op_load (qT (by repeat (first | with_reducible (first | exact qS | assumption) | refine qN rfl ?_ | exact qO rfl))) (loadA_cell (by kernel_rfl) g1 (by omega) g3) ?_)
    refine RP.p rfl (op_move (qT (by repeat (first | with_reducible (first | exact qS | assumption) | refine qN rfl ?_ | exact qO rfl))) ?_)
    refine RP.p rfl (op_move (qT (by repeat (first | with_reducible (first | exact qS | assumption) | refine qN rfl ?_ | exact qO rfl))) ?_)
    refine RP.p rfl (op_bin (show ev _ _ = some (.int .i64 (.ofNat 8)) from rfl) (qT (by repeat (first | with_reducible (first | exact qS | assumption) | refine qN rfl ?_ | exact qO rfl))) (bin_mul (by have e1 : topK .i64 = 9223372036854775808 := rfl; have e2 : topK .u32 = 4294967296 := rfl; have e3 : topK .u64 = 18446744073709551616 := rfl; have e4 : topK .u8 = 256 := rfl; have e5 : topK .u16 = 65536 := rfl; omega)) ?_)
    refine RP.p rfl (op_bin (qT (by repeat (first | with_reducible (first | exact qS | assumption) | refine qN rfl ?_ | exact qO rfl))) (qT (by repeat (first | with_reducible (first | exact qS | assumption) | refine qN rfl ?_ | exact qO rfl))) (bin_shr (by show _ ≤ 64; omega)) ?_)
    refine RP.p rfl (op_conv8 (qT (by repeat (first | with_reducible (first | exact qS | assumption) | refine qN rfl ?_ | exact qO rfl))) Tryz.underlying70 Tryz.underlying5 ?_)
    refine RP.p rfl (op_buildSlice (e := 5) (s := 1) (z := .int .u8 (.ofNat 0)) (cs := [.int .u8 (.ofNat (x / 2 ^ (8 * m) % 256))]) Tryz.underlying26 (by kernel_rfl) (by kernel_rfl) (evParts_cons (qT (by repeat (first | with_reducible (first | exact qS | assumption) | refine qN rfl ?_ | exact qO rfl))) evParts_nil) rfl rfl ?_)
    have hw1 := hW
    have fr1 : Fr (fun _ => False) h' (h'.new (.cells 1 (ofL [.int .u8 (.ofNat (x / 2 ^ (8 * m) % 256))]))) := (Fr.refl hF.wf).new _
    have g4' := g4.fr hF.wf fr1 fun _ _ => id
    have hlen : (u8L (l ++ octT x (4 - (m + 1)))).length < 1000000 := by
      rw [u8L_length, List.length_append]
      have : (octT x (4 - (m + 1))).length ≤ 4 := by unfold octT; rw [List.length_take]; omega
      omega
    obtain ⟨sv, h2, a1, a2, a3, a4⟩ := append_row (x := .int .u8 (.ofNat (x / 2 ^ (8 * m) % 256))) (bytes := i5.bytes) fr1.wf g4' (by omega) hlen
    refine RP.e rfl (op_append (qT (by repeat (first | with_reducible (first | exact qS | assumption) | refine qN rfl ?_ | exact qO rfl))) (qT (by repeat (first | with_reducible (first | exact qS | assumption) | refine qN rfl ?_ | exact qO rfl))) (appendA_of (z := .int .u8 (.ofNat 0)) Tryz.underlying26 hi (by kernel_rfl) rfl hi1 (srcA_one Tryz.underlying26 (obj_new_same (by simp)) (qO rfl) rfl) a1) ?_)
    have k1 : h2.obj bw = some (.cells 2 cw) := a3.get fr1.wf (fr1.get hF.wf g1 id) fun hb => (g5 bw hb).2 rfl
    have hone : sv.one = true := by rcases a2 with ⟨rfl, _⟩ | ⟨b, c, rfl, _⟩ <;> rfl
    refine RP.p rfl (op_nilCheck (qT (by repeat (first | with_reducible (first | exact qS | assumption) | refine qN rfl ?_ | exact qO rfl))) ?_)
    refine RP.p rfl (op_fieldAddr (off := 1) (qT (by repeat (first | with_reducible (first | exact qS | assumption) | refine qN rfl ?_ | exact qO rfl))) (by kernel_rfl) ?_)
    refine RP.e rfl (op_store (qT (by repeat (first | with_reducible (first | exact qS | assumption) | refine qN rfl ?_ | exact qO rfl))) (qT (by repeat (first | with_reducible (first | exact qS | assumption) | refine qN rfl ?_ | exact qO rfl))) k1 (by kernel_rfl) hone (by omega) ?_)
    refine RP.nil ?_
    refine Gives.region [.p 0, .p 1, .p 2] (by kernel_rfl) ?_
    refine RP.p rfl (op_move (qT (by repeat (first | with_reducible (first | exact qS | assumption) | refine qN rfl ?_ | exact qO rfl))) ?_)
    refine RP.p rfl (op_bin (qT (by repeat (first | with_reducible (first | exact qS | assumption) | refine qN rfl ?_ | exact qO rfl))) (show ev _ _ = some (.int .i64 (.ofNat 1)) from rfl) bin_subI ?_)
    refine RP.p rfl (op_assign (qT (by repeat (first | with_reducible (first | exact qS | assumption) | refine qN rfl ?_ | exact qO rfl))) ?_)
    refine RP.nil ?_
    have hlt2 := a3.wf.lt k1
    have f2 : Fr (fun _ => False) h0 h2 := (hF.trans fr1).above a3 fun c hc => (g5 c hc).1
    have hnb : ∀ b, blkOf sv b → h0.next ≤ b ∧ b ≠ bw := fun b hb => by
      have hb' := a4 b hb
      have hn1 : (h'.new (.cells 1 (ofL [.int .u8 (.ofNat (x / 2 ^ (8 * m) % 256))]))).next = h'.next + 1 := rfl
      have := hF.next
      have hl1 := hF.wf.lt g1
      omega
    refine ⟨m, by omega, _, by omega, (by repeat (first | with_reducible (first | exact qS | assumption) | refine qN rfl ?_ | exact qO rfl)), (by repeat (first | with_reducible (first | exact qS | assumption) | refine qN rfl ?_ | exact qO rfl)), (by repeat (first | with_reducible (first | exact qS | assumption) | refine qN rfl ?_ | exact qO rfl)), ?_, ⟨hW.ge, _, sv, obj_set_same (by simp), ?_, ?_, ?_, hnb⟩, f2.set _ hlt2 fun hb => by have := hW.ge; omega⟩
    · rw [wrap64 (by simp; omega) (by simp; omega)]; simp
    · rw [Tr.at_put, if_neg (by decide)]; exact g2
    · rw [Tr.at_put, if_pos rfl]
    · have hs : octT x (4 - m) = octT x (4 - (m + 1)) ++ [x / 2 ^ (8 * m) % 256] := by
        have := octT_succ x (4 - (m + 1)) (by omega)
        rw [show 4 - (m + 1) + 1 = 4 - m by omega, show 3 - (4 - (m + 1)) = m by omega] at this
        exact this
      rw [hs, ← List.append_assoc, u8L_append]
      exact a2.fr a3.wf (B := fun c => c = bw) ((Fr.refl a3.wf).set _ hlt2 fun _ => rfl) fun b hb => (hnb b hb).2
end Go.Abs
