/- One copy is read. No condition. -/
import Derived.Test.YtkihpcjfhilgcaaGreatZ19
namespace Go.Abs
open Go.Proofs
variable {X : Ext0} {S : Sums} {L : Nat} {h : H}
def RowX (h : H) (N : Nat) (v : AV) (l : List AV) : Prop := ∃ b c ex, v = .slice b 0 l.length l.length 1 ex ∧ 0 < l.length ∧ N ≤ b ∧ h.obj b = some (.cells l.length c) ∧ ∀ i, i < l.length → c.at i = l[i]?
theorem RowX.vals {N : Nat} {v : AV} {l : List AV} (r : RowX h N v l) : ∃ b ex, v = .slice b 0 l.length l.length 1 ex ∧ N ≤ b ∧ Vals h b 0 l := by
  obtain ⟨b, c, ex, rfl, _, hN, h1, h2⟩ := r
  refine ⟨b, ex, rfl, hN, _, _, h1, by omega, fun i u hu => ?_⟩
  rw [Nat.zero_add, h2 i (List.getElem?_eq_some_iff.1 hu).1]; exact hu
theorem RowX.fr {h h' : H} {N : Nat} {v : AV} {l : List AV} (r : RowX h N v l) (w : WF h) {B : Nat → Prop} (f : Fr B h h') (hB : ∀ b, B b → b < N) : RowX h' N v l := by
  obtain ⟨b, c, ex, rfl, h0, hN, h1, h2⟩ := r
  exact ⟨b, c, ex, rfl, h0, hN, f.get w h1 (fun hb => by have := hB b hb; omega), h2⟩
theorem append_rowX {s x : AV} {l : List AV} {bytes N : Nat} (hw : WF h) (hr : RowX h N s l) (hb1 : bytes ≤ 8) (hb2 : l.length < 1000000) :
    ∃ v h', appendTo h 1 bytes s 1 [x] = some (v, h') ∧ RowX h' N v (l ++ [x]) ∧ Fr (fun b => N ≤ b) h h' := by
  obtain ⟨b, c, ex, rfl, h0, hN, h1, h2⟩ := hr
  have hlt := hw.lt h1
  have e1 : (Nat.ble (2 * (l.length + 1) * bytes) 281474976710656 && Nat.ble (l.length + 1) 4611686018427387904) = true := by
    have : 2 * (l.length + 1) * bytes ≤ 2 * (l.length + 1) * 8 := Nat.mul_le_mul_left _ hb1
    simp; omega
  have e2 : Nat.ble (l.length + 1) l.length = false := by
    cases hh : Nat.ble (l.length + 1) l.length with
    | false => rfl
    | true => have := Nat.le_of_ble_eq_true hh; omega
  have e5 : Nat.ble l.length l.length = true := Nat.ble_eq_true_of_le (Nat.le_refl _)
  have e3 : Nat.beq 1 1 = true := rfl
  have e6 : Nat.beq l.length 0 = false := by
    cases hh : Nat.beq l.length 0 with
    | false => rfl
    | true => have := Nat.eq_of_beq_eq_true hh; omega
  have key : ∀ i, i < l.length + 1 → (c.put l.length x).at i = (l ++ [x])[i]? := fun i hi => by
    rw [Tr.at_put]
    by_cases e : i = l.length
    · subst e; rw [if_pos rfl]; simp
    · rw [if_neg e, h2 i (by omega), List.getElem?_append_left (by omega)]
  cases ex with
  | true =>
    refine ⟨.slice h.next 0 (l.length + 1) (l.length + 1) 1 false, h.new (.cells (l.length + 1) (c.put l.length x)), ?_, ⟨h.next, c.put l.length x, false, by simp, by simp, by omega, ?_, fun i hi => key i (by simpa using hi)⟩, (Fr.refl hw).new _⟩
    · unfold appendTo
      rw [forceL_eq]
      simp only [e1, e2, e3, e5, e6, Bool.and_self, Bool.and_false, cond_true, cond_false, h1, joinK_eq, joinT, Nat.beq_refl, forceN_eq, H.setK_eq, H.newK_eq, List.length_cons, List.length_nil, Nat.zero_add, Nat.mul_one]
      rfl
    · rw [List.length_append]
      exact obj_new_same (by simp)
  | false =>
    refine ⟨.slice h.next 0 (l.length + 1) (l.length + 1) 1 false, (h.set b .dead).new (.cells (l.length + 1) (c.put l.length x)), ?_, ⟨h.next, c.put l.length x, false, by simp, by simp, by omega, ?_, fun i hi => key i (by simpa using hi)⟩, ((Fr.refl hw).set (B := fun b => N ≤ b) _ hlt fun _ => hN).new _⟩
    · unfold appendTo
      rw [forceL_eq]
      simp only [e1, e2, e3, e5, e6, Bool.and_self, cond_true, cond_false, h1, joinK_eq, joinT, Nat.beq_refl, forceN_eq, H.setK_eq, H.newK_eq, List.length_cons, List.length_nil, Nat.zero_add, Nat.mul_one]
      rfl
    · rw [List.length_append]
      exact obj_new_same (h := h.set b .dead) (by simp)
structure VM (h : H) (bv bm bw n : Nat) (D : Nat → Nat) (Z : Nat → Prop) (start half : Nat) : Prop where
  m : Mem h bm bw n D Z
  v : Vlt h bv bm start half
  n1 : bv ≠ bm
  n2 : bv ≠ bw
  le : start + 2 * half ≤ n
theorem VM.fr {h h' : H} {bv bm bw n start half : Nat} {D : Nat → Nat} {Z : Nat → Prop} (m : VM h bv bm bw n D Z start half) {B : Nat → Prop} (f : Fr B h h') (h1 : ¬ B bv) (h2 : ¬ B bm) (h3 : ¬ B bw) : VM h' bv bm bw n D Z start half :=
  ⟨m.m.fr f h2 h3, m.v.fr m.m.wf f h1, m.n1, m.n2, m.le⟩
theorem VM.fr2 {h h' : H} {bv bm bw n start half : Nat} {D D' : Nat → Nat} {Z Z' : Nat → Prop} (m : VM h bv bm bw n D Z start half) (f : Fr (two bm bw) h h') (hm : Mem h' bm bw n D' Z') : VM h' bv bm bw n D' Z' start half :=
  ⟨hm, m.v.fr m.m.wf f (fun hb => by rcases hb with hb | hb; exact m.n1 hb; exact m.n2 hb), m.n1, m.n2, m.le⟩
theorem mread_in {d : Nat} (hS : SOk S) (hL : 100 ≤ L) {bm bw n : Nat} {D : Nat → Nat} {Z : Nat → Prop} (hM : Mem h bm bw n D Z) (a : Nat) (ha : a < n) :
    CS Tryz.prog X S L (d + 5) 23 [.ptr bm 0, .int .i64 (.ofNat a)] h (fun v h' => v = .tup [.int .u32 (.ofNat (D a)), .int .i64 (.ofNat 0)] ∧ Mem h' bm bw n D Z ∧ Fr (two bm bw) h h') :=
  (mread_spec hS hL hM (.ofNat a)).mono fun v h' q => by
    rw [if_pos ⟨by simp, by simpa using ha⟩] at q
    exact q
theorem bnds_lohi {len cap p q : Nat} {k l : IntKind} (h1 : p ≤ q) (h2 : q ≤ cap) : bnds len cap (some (.int k (.ofNat p))) (some (.int l (.ofNat q))) none = some (p, q, cap) := by
  have e1 : Nat.ble p q = true := Nat.ble_eq_true_of_le h1
  have e2 : Nat.ble q cap = true := Nat.ble_eq_true_of_le h2
  simp only [bnds, intA, e1, e2, cond_true]
theorem Mem.lt {bm bw n i : Nat} {D : Nat → Nat} {Z : Nat → Prop} (m : Mem h bm bw n D Z) (hi : i < n) : D i < 4294967296 := by
  obtain ⟨cw, _, h2⟩ := m.w
  obtain ⟨_, _, h3⟩ := h2 i hi
  exact h3.1
def Own (h : H) (N : Nat) (v : AV) (l : List Nat) : Prop := (v = .snil ∧ l = []) ∨ Bts h N v l
theorem read_spec {d : Nat} (hS : SOk S) (hL : 1000000 ≤ L) {bv bm bw n start half : Nat} {D : Nat → Nat} {Z : Nat → Prop} (hM : VM h bv bm bw n D Z start half) (k : Nat) (hk : k ≤ 1) :
    CS Tryz.prog X S L (d + 6) 73 [.ptr bv 0, .int .i64 (.ofNat k)] h (fun v h' => ∃ s, v = .tup [.int .i64 (.ofNat (rdS D (start + k * half) (4 * (half - 3))).1), s] ∧ Own h' h.next s (rdS D (start + k * half) (4 * (half - 3))).2 ∧ VM h' bv bm bw n D Z start half ∧ Fr (two bm bw) h h') := by
  obtain ⟨cv, v1, v2, v3, v4⟩ := hM.v.v
  have hs := hM.v.s
  have hh4 := hM.v.h4
  have hhh := hM.v.hh
  have hle := hM.le
  have hkh : k * half ≤ half := by have := Nat.mul_le_mul_right half hk; omega
  generalize ha : start + k * half = a at *
  have hroom : a + half ≤ n := by omega
  have hD : ∀ i, i < half → D (a + i) < 4294967296 := fun i hi => hM.m.lt (by omega)
  have d0 := hD 0 (by omega)
  have d1 := hD 1 (by omega)
  rw [Nat.add_zero] at d0
  refine CS.of (rs := [.tmp 4, .tmp 5]) (hS.none _ (by decide) (by decide)) Tryz.func73 rfl rfl ?_
  refine Gives.seq ?_
  refine Gives.region [.p 0, .p 1] (by kernel_rfl) ?_
  refine RP.p rfl (op_assign (show ev _ _ = some (.int .i64 (.ofNat 0)) from rfl) ?_)
  refine RP.p rfl (op_assign rfl ?_)
  refine RP.nil ?_
  refine Gives.seq ?_
  refine Gives.region [.p 0, .p 1, .p 2, .r 3, .p 4, .p 5, .p 6, .p 7, .r 8, .p 9, .p 10, .p 11] (by kernel_rfl) ?_
  refine RP.p rfl (op_move (qT (by repeat (first | with_reducible (first | exact qS | assumption) | refine qN rfl ?_ | exact qO rfl))) ?_)
  refine RP.p rfl (op_nilCheck (qT (by repeat (first | with_reducible (first | exact qS | assumption) | refine qN rfl ?_ | exact qO rfl))) ?_)
  refine RP.p rfl (op_fieldAddr (off := 1) (qT (by repeat (first | with_reducible (first | exact qS | assumption) | refine qN rfl ?_ | exact qO rfl))) (by kernel_rfl) ?_)
  refine RP.r rfl (op_load (qT (by repeat (first | with_reducible (first | exact qS | assumption) | refine qN rfl ?_ | exact qO rfl))) (loadA_cell (by kernel_rfl) v1 (by omega) v3) ?_)
  refine RP.p rfl (op_move (qT (by repeat (first | with_reducible (first | exact qS | assumption) | refine qN rfl ?_ | exact qO rfl))) ?_)
  refine RP.p rfl (op_move (qT (by repeat (first | with_reducible (first | exact qS | assumption) | refine qN rfl ?_ | exact qO rfl))) ?_)
  refine RP.p rfl (op_nilCheck (qT (by repeat (first | with_reducible (first | exact qS | assumption) | refine qN rfl ?_ | exact qO rfl))) ?_)
  refine RP.p rfl (op_fieldAddr (off := 2) (qT (by repeat (first | with_reducible (first | exact qS | assumption) | refine qN rfl ?_ | exact qO rfl))) (by kernel_rfl) ?_)
  refine RP.r rfl (op_load (qT (by repeat (first | with_reducible (first | exact qS | assumption) | refine qN rfl ?_ | exact qO rfl))) (loadA_cell (by kernel_rfl) v1 (by omega) v4) ?_)
  refine RP.p rfl (op_bin (qT (by repeat (first | with_reducible (first | exact qS | assumption) | refine qN rfl ?_ | exact qO rfl))) (qT (by repeat (first | with_reducible (first | exact qS | assumption) | refine qN rfl ?_ | exact qO rfl))) (bin_mul (by have e1 : topK .i64 = 9223372036854775808 := rfl; have e2 : topK .u32 = 4294967296 := rfl; have e3 : topK .u64 = 18446744073709551616 := rfl; have e4 : topK .u8 = 256 := rfl; have e5 : topK .u16 = 65536 := rfl; omega)) ?_)
  refine RP.p rfl (op_bin (qT (by repeat (first | with_reducible (first | exact qS | assumption) | refine qN rfl ?_ | exact qO rfl))) (qT (by repeat (first | with_reducible (first | exact qS | assumption) | refine qN rfl ?_ | exact qO rfl))) (bin_add (by have e1 : topK .i64 = 9223372036854775808 := rfl; have e2 : topK .u32 = 4294967296 := rfl; have e3 : topK .u64 = 18446744073709551616 := rfl; have e4 : topK .u8 = 256 := rfl; have e5 : topK .u16 = 65536 := rfl; omega)) ?_)
  rw [ha]
  refine RP.p rfl (op_assign (qT (by repeat (first | with_reducible (first | exact qS | assumption) | refine qN rfl ?_ | exact qO rfl))) ?_)
  refine RP.nil ?_
  refine Gives.seq ?_
  refine Gives.region [.p 0, .p 1, .p 2, .r 3, .p 4, .e 5 [], .p 6, .p 7, .p 8, .p 9, .p 10] (by kernel_rfl) ?_
  refine RP.p rfl (op_move (qT (by repeat (first | with_reducible (first | exact qS | assumption) | refine qN rfl ?_ | exact qO rfl))) ?_)
  refine RP.p rfl (op_nilCheck (qT (by repeat (first | with_reducible (first | exact qS | assumption) | refine qN rfl ?_ | exact qO rfl))) ?_)
  refine RP.p rfl (op_fieldAddr (off := 0) (qT (by repeat (first | with_reducible (first | exact qS | assumption) | refine qN rfl ?_ | exact qO rfl))) (by kernel_rfl) ?_)
  refine RP.r rfl (op_load (qT (by repeat (first | with_reducible (first | exact qS | assumption) | refine qN rfl ?_ | exact qO rfl))) (loadA_cell (by kernel_rfl) v1 (by omega) v2) ?_)
  refine RP.p rfl (op_move (qT (by repeat (first | with_reducible (first | exact qS | assumption) | refine qN rfl ?_ | exact qO rfl))) ?_)
  refine RP.e rfl (op_calls (evs_cons (qT (by repeat (first | with_reducible (first | exact qS | assumption) | refine qN rfl ?_ | exact qO rfl))) (evs_cons (qT (by repeat (first | with_reducible (first | exact qS | assumption) | refine qN rfl ?_ | exact qO rfl))) evs_nil)) (by kernel_rfl) (mread_in hS (by omega) hM.m a (by omega)) ?_)
  rintro v h1 ⟨rfl, hm1, hf1⟩
  have hM1 := hM.fr2 hf1 hm1
  clear v1 v2 v3 v4
  obtain ⟨cv, v1, v2, v3, v4⟩ := hM1.v.v
  refine RP.p rfl (op_move (qT (by repeat (first | with_reducible (first | exact qS | assumption) | refine qN rfl ?_ | exact qO rfl))) ?_)
  refine RP.p rfl (op_extract (qT (by repeat (first | with_reducible (first | exact qS | assumption) | refine qN rfl ?_ | exact qO rfl))) rfl ?_)
  refine RP.p rfl (op_extract (qT (by repeat (first | with_reducible (first | exact qS | assumption) | refine qN rfl ?_ | exact qO rfl))) rfl ?_)
  refine RP.p rfl (op_assign (qT (by repeat (first | with_reducible (first | exact qS | assumption) | refine qN rfl ?_ | exact qO rfl))) ?_)
  refine RP.p rfl (op_assign (qT (by repeat (first | with_reducible (first | exact qS | assumption) | refine qN rfl ?_ | exact qO rfl))) ?_)
  refine RP.nil ?_
  refine Gives.seq ?_
  refine Gives.region [.p 0, .p 1, .p 2, .r 3, .p 4, .p 5, .e 6 [], .p 7, .p 8, .p 9, .p 10, .p 11] (by kernel_rfl) ?_
  refine RP.p rfl (op_move (qT (by repeat (first | with_reducible (first | exact qS | assumption) | refine qN rfl ?_ | exact qO rfl))) ?_)
  refine RP.p rfl (op_nilCheck (qT (by repeat (first | with_reducible (first | exact qS | assumption) | refine qN rfl ?_ | exact qO rfl))) ?_)
  refine RP.p rfl (op_fieldAddr (off := 0) (qT (by repeat (first | with_reducible (first | exact qS | assumption) | refine qN rfl ?_ | exact qO rfl))) (by kernel_rfl) ?_)
  refine RP.r rfl (op_load (qT (by repeat (first | with_reducible (first | exact qS | assumption) | refine qN rfl ?_ | exact qO rfl))) (loadA_cell (by kernel_rfl) v1 (by omega) v2) ?_)
  refine RP.p rfl (op_move (qT (by repeat (first | with_reducible (first | exact qS | assumption) | refine qN rfl ?_ | exact qO rfl))) ?_)
  refine RP.p rfl (op_bin (qT (by repeat (first | with_reducible (first | exact qS | assumption) | refine qN rfl ?_ | exact qO rfl))) (show ev _ _ = some (.int .i64 (.ofNat 1)) from rfl) (bin_add (by have e1 : topK .i64 = 9223372036854775808 := rfl; have e2 : topK .u32 = 4294967296 := rfl; have e3 : topK .u64 = 18446744073709551616 := rfl; have e4 : topK .u8 = 256 := rfl; have e5 : topK .u16 = 65536 := rfl; omega)) ?_)
  refine RP.e rfl (op_calls (evs_cons (qT (by repeat (first | with_reducible (first | exact qS | assumption) | refine qN rfl ?_ | exact qO rfl))) (evs_cons (qT (by repeat (first | with_reducible (first | exact qS | assumption) | refine qN rfl ?_ | exact qO rfl))) evs_nil)) (by kernel_rfl) (mread_in hS (by omega) hM1.m (a + 1) (by omega)) ?_)
  rintro v h2 ⟨rfl, hm2, hf2⟩
  have hM2 := hM1.fr2 hf2 hm2
  clear v1 v2 v3 v4
  obtain ⟨cv, v1, v2, v3, v4⟩ := hM2.v.v
  refine RP.p rfl (op_move (qT (by repeat (first | with_reducible (first | exact qS | assumption) | refine qN rfl ?_ | exact qO rfl))) ?_)
  refine RP.p rfl (op_extract (qT (by repeat (first | with_reducible (first | exact qS | assumption) | refine qN rfl ?_ | exact qO rfl))) rfl ?_)
  refine RP.p rfl (op_extract (qT (by repeat (first | with_reducible (first | exact qS | assumption) | refine qN rfl ?_ | exact qO rfl))) rfl ?_)
  refine RP.p rfl (op_assign (qT (by repeat (first | with_reducible (first | exact qS | assumption) | refine qN rfl ?_ | exact qO rfl))) ?_)
  refine RP.p rfl (op_assign (qT (by repeat (first | with_reducible (first | exact qS | assumption) | refine qN rfl ?_ | exact qO rfl))) ?_)
  refine RP.nil ?_
  refine Gives.seq ?_
  refine Gives.seq ?_
  refine Gives.region [.p 0, .p 1, .p 2, .p 3, .p 4, .p 5, .p 6, .p 7, .p 8, .p 9, .p 10, .p 11, .p 12, .p 13, .e 14 [], .p 15, .p 16] (by kernel_rfl) ?_
  by_cases hg0 : D a = 0
  · have hbad : rdS D a (4 * (half - 3)) = (0, []) := rdS_zero hg0
    refine RP.p rfl (op_move (qT (by repeat (first | with_reducible (first | exact qS | assumption) | refine qN rfl ?_ | exact qO rfl))) ?_)
    refine RP.p rfl (op_bin (qT (by repeat (first | with_reducible (first | exact qS | assumption) | refine qN rfl ?_ | exact qO rfl))) (show ev _ _ = some (.int .i64 (.ofNat 0)) from rfl) (bin_neq_f rfl) ?_)
    refine RP.p rfl (op_move (qT (by repeat (first | with_reducible (first | exact qS | assumption) | refine qN rfl ?_ | exact qO rfl))) ?_)
    refine RP.p rfl (OpP.on' rfl rfl (by repeat (first | with_reducible (first | exact qS | assumption) | refine qN rfl ?_ | exact qO rfl)) (op_move (qT (by repeat (first | with_reducible (first | exact qS | assumption) | refine qN rfl ?_ | exact qO rfl))) ?_))
    refine RP.p rfl (OpP.on' rfl rfl (by repeat (first | with_reducible (first | exact qS | assumption) | refine qN rfl ?_ | exact qO rfl)) (op_bin (qT (by repeat (first | with_reducible (first | exact qS | assumption) | refine qN rfl ?_ | exact qO rfl))) (show ev _ _ = some (.int .i64 (.ofNat 0)) from rfl) (bin_neq_f rfl) ?_))
    refine RP.p rfl (op_pick_f (qT (by repeat (first | with_reducible (first | exact qS | assumption) | refine qN rfl ?_ | exact qO rfl))) (qT (by repeat (first | with_reducible (first | exact qS | assumption) | refine qN rfl ?_ | exact qO rfl))) ?_)
    refine RP.p rfl (op_move (qT (by repeat (first | with_reducible (first | exact qS | assumption) | refine qN rfl ?_ | exact qO rfl))) ?_)
    refine RP.p rfl (OpP.on' rfl rfl (by repeat (first | with_reducible (first | exact qS | assumption) | refine qN rfl ?_ | exact qO rfl)) (op_move (qT (by repeat (first | with_reducible (first | exact qS | assumption) | refine qN rfl ?_ | exact qO rfl))) ?_))
    refine RP.p rfl (OpP.on' rfl rfl (by repeat (first | with_reducible (first | exact qS | assumption) | refine qN rfl ?_ | exact qO rfl)) (op_bin (qT (by repeat (first | with_reducible (first | exact qS | assumption) | refine qN rfl ?_ | exact qO rfl))) (show ev _ _ = some (.int .u32 (.ofNat 0)) from rfl) (bin_eql_t hg0) ?_))
    refine RP.p rfl (op_pick_f (qT (by repeat (first | with_reducible (first | exact qS | assumption) | refine qN rfl ?_ | exact qO rfl))) (qT (by repeat (first | with_reducible (first | exact qS | assumption) | refine qN rfl ?_ | exact qO rfl))) ?_)
    refine RP.p rfl (op_move (qT (by repeat (first | with_reducible (first | exact qS | assumption) | refine qN rfl ?_ | exact qO rfl))) ?_)
    refine RP.p rfl (OpP.offT rfl rfl (by repeat (first | with_reducible (first | exact qS | assumption) | refine qN rfl ?_ | exact qO rfl)) ?_)
    refine RP.p rfl (OpP.offT rfl rfl (by repeat (first | with_reducible (first | exact qS | assumption) | refine qN rfl ?_ | exact qO rfl)) ?_)
    refine RP.p rfl (OpP.offT rfl rfl (by repeat (first | with_reducible (first | exact qS | assumption) | refine qN rfl ?_ | exact qO rfl)) ?_)
    refine RP.e rfl (OpE.offT rfl rfl (by repeat (first | with_reducible (first | exact qS | assumption) | refine qN rfl ?_ | exact qO rfl)) ?_)
    refine RP.p rfl (OpP.offT rfl rfl (by repeat (first | with_reducible (first | exact qS | assumption) | refine qN rfl ?_ | exact qO rfl)) ?_)
    refine RP.p rfl (op_pick_t (qT (by repeat (first | with_reducible (first | exact qS | assumption) | refine qN rfl ?_ | exact qO rfl))) rfl ?_)
    refine RP.nil ?_
    refine Gives.then_ (qT (by repeat (first | with_reducible (first | exact qS | assumption) | refine qN rfl ?_ | exact qO rfl))) ?_
    refine Gives.seq ?_
    refine Gives.region [.p 0, .p 1] (by kernel_rfl) ?_
    refine RP.p rfl (op_assign (show ev _ _ = some (.int .i64 (.ofNat 0)) from rfl) ?_)
    refine RP.p rfl (op_assign rfl ?_)
    refine RP.nil ?_
    refine Gives.ret0 (RS.two (by repeat (first | with_reducible (first | exact qS | assumption) | refine qN rfl ?_ | exact qO rfl)) (by repeat (first | with_reducible (first | exact qS | assumption) | refine qN rfl ?_ | exact qO rfl)) ⟨.snil, ?_, ?_, hM2, hf1.trans hf2⟩)
    · rw [hbad]
    · rw [hbad]; exact .inl ⟨rfl, rfl⟩
  by_cases hg1 : 4 * (half - 3) < D (a + 1)
  · have hbad : rdS D a (4 * (half - 3)) = (0, []) := by unfold rdS; rw [if_pos (.inr hg1)]
    refine RP.p rfl (op_move (qT (by repeat (first | with_reducible (first | exact qS | assumption) | refine qN rfl ?_ | exact qO rfl))) ?_)
    refine RP.p rfl (op_bin (qT (by repeat (first | with_reducible (first | exact qS | assumption) | refine qN rfl ?_ | exact qO rfl))) (show ev _ _ = some (.int .i64 (.ofNat 0)) from rfl) (bin_neq_f rfl) ?_)
    refine RP.p rfl (op_move (qT (by repeat (first | with_reducible (first | exact qS | assumption) | refine qN rfl ?_ | exact qO rfl))) ?_)
    refine RP.p rfl (OpP.on' rfl rfl (by repeat (first | with_reducible (first | exact qS | assumption) | refine qN rfl ?_ | exact qO rfl)) (op_move (qT (by repeat (first | with_reducible (first | exact qS | assumption) | refine qN rfl ?_ | exact qO rfl))) ?_))
    refine RP.p rfl (OpP.on' rfl rfl (by repeat (first | with_reducible (first | exact qS | assumption) | refine qN rfl ?_ | exact qO rfl)) (op_bin (qT (by repeat (first | with_reducible (first | exact qS | assumption) | refine qN rfl ?_ | exact qO rfl))) (show ev _ _ = some (.int .i64 (.ofNat 0)) from rfl) (bin_neq_f rfl) ?_))
    refine RP.p rfl (op_pick_f (qT (by repeat (first | with_reducible (first | exact qS | assumption) | refine qN rfl ?_ | exact qO rfl))) (qT (by repeat (first | with_reducible (first | exact qS | assumption) | refine qN rfl ?_ | exact qO rfl))) ?_)
    refine RP.p rfl (op_move (qT (by repeat (first | with_reducible (first | exact qS | assumption) | refine qN rfl ?_ | exact qO rfl))) ?_)
    refine RP.p rfl (OpP.on' rfl rfl (by repeat (first | with_reducible (first | exact qS | assumption) | refine qN rfl ?_ | exact qO rfl)) (op_move (qT (by repeat (first | with_reducible (first | exact qS | assumption) | refine qN rfl ?_ | exact qO rfl))) ?_))
    refine RP.p rfl (OpP.on' rfl rfl (by repeat (first | with_reducible (first | exact qS | assumption) | refine qN rfl ?_ | exact qO rfl)) (op_bin (qT (by repeat (first | with_reducible (first | exact qS | assumption) | refine qN rfl ?_ | exact qO rfl))) (show ev _ _ = some (.int .u32 (.ofNat 0)) from rfl) (bin_eql_f hg0) ?_))
    refine RP.p rfl (op_pick_f (qT (by repeat (first | with_reducible (first | exact qS | assumption) | refine qN rfl ?_ | exact qO rfl))) (qT (by repeat (first | with_reducible (first | exact qS | assumption) | refine qN rfl ?_ | exact qO rfl))) ?_)
    refine RP.p rfl (op_move (qT (by repeat (first | with_reducible (first | exact qS | assumption) | refine qN rfl ?_ | exact qO rfl))) ?_)
    refine RP.p rfl (OpP.on' rfl rfl (by repeat (first | with_reducible (first | exact qS | assumption) | refine qN rfl ?_ | exact qO rfl)) (op_move (qT (by repeat (first | with_reducible (first | exact qS | assumption) | refine qN rfl ?_ | exact qO rfl))) ?_))
    refine RP.p rfl (OpP.on' rfl rfl (by repeat (first | with_reducible (first | exact qS | assumption) | refine qN rfl ?_ | exact qO rfl)) (op_conv (qT (by repeat (first | with_reducible (first | exact qS | assumption) | refine qN rfl ?_ | exact qO rfl))) Tryz.underlying35 Tryz.underlying3 (by have e1 : topK .i64 = 9223372036854775808 := rfl; have e2 : topK .u32 = 4294967296 := rfl; have e3 : topK .u64 = 18446744073709551616 := rfl; have e4 : topK .u8 = 256 := rfl; have e5 : topK .u16 = 65536 := rfl; omega) ?_))
    refine RP.p rfl (OpP.on' rfl rfl (by repeat (first | with_reducible (first | exact qS | assumption) | refine qN rfl ?_ | exact qO rfl)) (op_move (qT (by repeat (first | with_reducible (first | exact qS | assumption) | refine qN rfl ?_ | exact qO rfl))) ?_))
    refine RP.e rfl (OpE.on' rfl rfl (by repeat (first | with_reducible (first | exact qS | assumption) | refine qN rfl ?_ | exact qO rfl)) (op_calls (evs_cons (qT (by repeat (first | with_reducible (first | exact qS | assumption) | refine qN rfl ?_ | exact qO rfl))) evs_nil) (by kernel_rfl) (room_spec hS hM2.v) ?_))
    rintro v h' ⟨rfl, rfl⟩
    refine RP.p rfl (OpP.on' rfl rfl (by repeat (first | with_reducible (first | exact qS | assumption) | refine qN rfl ?_ | exact qO rfl)) (op_bin (qT (by repeat (first | with_reducible (first | exact qS | assumption) | refine qN rfl ?_ | exact qO rfl))) (qT (by repeat (first | with_reducible (first | exact qS | assumption) | refine qN rfl ?_ | exact qO rfl))) (bin_gtr_t hg1) ?_))
    refine RP.p rfl (op_pick_f (qT (by repeat (first | with_reducible (first | exact qS | assumption) | refine qN rfl ?_ | exact qO rfl))) (qT (by repeat (first | with_reducible (first | exact qS | assumption) | refine qN rfl ?_ | exact qO rfl))) ?_)
    refine RP.nil ?_
    refine Gives.then_ (qT (by repeat (first | with_reducible (first | exact qS | assumption) | refine qN rfl ?_ | exact qO rfl))) ?_
    refine Gives.seq ?_
    refine Gives.region [.p 0, .p 1] (by kernel_rfl) ?_
    refine RP.p rfl (op_assign (show ev _ _ = some (.int .i64 (.ofNat 0)) from rfl) ?_)
    refine RP.p rfl (op_assign rfl ?_)
    refine RP.nil ?_
    refine Gives.ret0 (RS.two (by repeat (first | with_reducible (first | exact qS | assumption) | refine qN rfl ?_ | exact qO rfl)) (by repeat (first | with_reducible (first | exact qS | assumption) | refine qN rfl ?_ | exact qO rfl)) ⟨.snil, ?_, ?_, hM2, hf1.trans hf2⟩)
    · rw [hbad]
    · rw [hbad]; exact .inl ⟨rfl, rfl⟩
  have hrd : rdS D a (4 * (half - 3)) = if rdL D a (D (a + 1)) = wordsS (D a) (rdB D a (D (a + 1))) then (D a, rdB D a (D (a + 1))) else (0, []) := by
    unfold rdS; rw [if_neg (by omega)]
  refine RP.p rfl (op_move (qT (by repeat (first | with_reducible (first | exact qS | assumption) | refine qN rfl ?_ | exact qO rfl))) ?_)
  refine RP.p rfl (op_bin (qT (by repeat (first | with_reducible (first | exact qS | assumption) | refine qN rfl ?_ | exact qO rfl))) (show ev _ _ = some (.int .i64 (.ofNat 0)) from rfl) (bin_neq_f rfl) ?_)
  refine RP.p rfl (op_move (qT (by repeat (first | with_reducible (first | exact qS | assumption) | refine qN rfl ?_ | exact qO rfl))) ?_)
  refine RP.p rfl (OpP.on' rfl rfl (by repeat (first | with_reducible (first | exact qS | assumption) | refine qN rfl ?_ | exact qO rfl)) (op_move (qT (by repeat (first | with_reducible (first | exact qS | assumption) | refine qN rfl ?_ | exact qO rfl))) ?_))
  refine RP.p rfl (OpP.on' rfl rfl (by repeat (first | with_reducible (first | exact qS | assumption) | refine qN rfl ?_ | exact qO rfl)) (op_bin (qT (by repeat (first | with_reducible (first | exact qS | assumption) | refine qN rfl ?_ | exact qO rfl))) (show ev _ _ = some (.int .i64 (.ofNat 0)) from rfl) (bin_neq_f rfl) ?_))
  refine RP.p rfl (op_pick_f (qT (by repeat (first | with_reducible (first | exact qS | assumption) | refine qN rfl ?_ | exact qO rfl))) (qT (by repeat (first | with_reducible (first | exact qS | assumption) | refine qN rfl ?_ | exact qO rfl))) ?_)
  refine RP.p rfl (op_move (qT (by repeat (first | with_reducible (first | exact qS | assumption) | refine qN rfl ?_ | exact qO rfl))) ?_)
  refine RP.p rfl (OpP.on' rfl rfl (by repeat (first | with_reducible (first | exact qS | assumption) | refine qN rfl ?_ | exact qO rfl)) (op_move (qT (by repeat (first | with_reducible (first | exact qS | assumption) | refine qN rfl ?_ | exact qO rfl))) ?_))
  refine RP.p rfl (OpP.on' rfl rfl (by repeat (first | with_reducible (first | exact qS | assumption) | refine qN rfl ?_ | exact qO rfl)) (op_bin (qT (by repeat (first | with_reducible (first | exact qS | assumption) | refine qN rfl ?_ | exact qO rfl))) (show ev _ _ = some (.int .u32 (.ofNat 0)) from rfl) (bin_eql_f hg0) ?_))
  refine RP.p rfl (op_pick_f (qT (by repeat (first | with_reducible (first | exact qS | assumption) | refine qN rfl ?_ | exact qO rfl))) (qT (by repeat (first | with_reducible (first | exact qS | assumption) | refine qN rfl ?_ | exact qO rfl))) ?_)
  refine RP.p rfl (op_move (qT (by repeat (first | with_reducible (first | exact qS | assumption) | refine qN rfl ?_ | exact qO rfl))) ?_)
  refine RP.p rfl (OpP.on' rfl rfl (by repeat (first | with_reducible (first | exact qS | assumption) | refine qN rfl ?_ | exact qO rfl)) (op_move (qT (by repeat (first | with_reducible (first | exact qS | assumption) | refine qN rfl ?_ | exact qO rfl))) ?_))
  refine RP.p rfl (OpP.on' rfl rfl (by repeat (first | with_reducible (first | exact qS | assumption) | refine qN rfl ?_ | exact qO rfl)) (op_conv (qT (by repeat (first | with_reducible (first | exact qS | assumption) | refine qN rfl ?_ | exact qO rfl))) Tryz.underlying35 Tryz.underlying3 (by have e1 : topK .i64 = 9223372036854775808 := rfl; have e2 : topK .u32 = 4294967296 := rfl; have e3 : topK .u64 = 18446744073709551616 := rfl; have e4 : topK .u8 = 256 := rfl; have e5 : topK .u16 = 65536 := rfl; omega) ?_))
  refine RP.p rfl (OpP.on' rfl rfl (by repeat (first | with_reducible (first | exact qS | assumption) | refine qN rfl ?_ | exact qO rfl)) (op_move (qT (by repeat (first | with_reducible (first | exact qS | assumption) | refine qN rfl ?_ | exact qO rfl))) ?_))
  refine RP.e rfl (OpE.on' rfl rfl (by repeat (first | with_reducible (first | exact qS | assumption) | refine qN rfl ?_ | exact qO rfl)) (op_calls (evs_cons (qT (by repeat (first | with_reducible (first | exact qS | assumption) | refine qN rfl ?_ | exact qO rfl))) evs_nil) (by kernel_rfl) (room_spec hS hM2.v) ?_))
  rintro v h' ⟨rfl, rfl⟩
  refine RP.p rfl (OpP.on' rfl rfl (by repeat (first | with_reducible (first | exact qS | assumption) | refine qN rfl ?_ | exact qO rfl)) (op_bin (qT (by repeat (first | with_reducible (first | exact qS | assumption) | refine qN rfl ?_ | exact qO rfl))) (qT (by repeat (first | with_reducible (first | exact qS | assumption) | refine qN rfl ?_ | exact qO rfl))) (bin_gtr_f (by omega)) ?_))
  refine RP.p rfl (op_pick_f (qT (by repeat (first | with_reducible (first | exact qS | assumption) | refine qN rfl ?_ | exact qO rfl))) (qT (by repeat (first | with_reducible (first | exact qS | assumption) | refine qN rfl ?_ | exact qO rfl))) ?_)
  refine RP.nil ?_
  refine Gives.else_ (qT (by repeat (first | with_reducible (first | exact qS | assumption) | refine qN rfl ?_ | exact qO rfl))) ?_
  refine Gives.skip ?_
  have hbm : bm < h.next := by obtain ⟨_, _, q, _⟩ := hM.m.m; exact hM.m.wf.lt q
  have hbw : bw < h.next := by obtain ⟨_, q, _⟩ := hM.m.w; exact hM.m.wf.lt q
  have hbv : bv < h.next := by obtain ⟨_, q, _⟩ := hM.v.v; exact hM.m.wf.lt q
  have hF2 := hf1.trans hf2
  have hK : (D (a + 1) + 3) / 4 + 3 ≤ half := by omega
  generalize hKK : (D (a + 1) + 3) / 4 = K at hK
  obtain ⟨i35, hi, hi1, hi2⟩ := info35
  refine Gives.seq ?_
  refine Gives.region [.p 0, .p 1, .p 2, .p 3] (by kernel_rfl) ?_
  refine RP.p rfl (op_move (qT (by repeat (first | with_reducible (first | exact qS | assumption) | refine qN rfl ?_ | exact qO rfl))) ?_)
  refine RP.p rfl (op_move (qT (by repeat (first | with_reducible (first | exact qS | assumption) | refine qN rfl ?_ | exact qO rfl))) ?_)
  refine RP.p rfl (op_buildSlice (e := 35) (s := 1) (z := .int .u32 (.ofNat 0)) (cs := [.int .u32 (.ofNat (D a)), .int .u32 (.ofNat (D (a + 1)))]) Tryz.underlying96 (by kernel_rfl) (by kernel_rfl) (evParts_cons (qT (by repeat (first | with_reducible (first | exact qS | assumption) | refine qN rfl ?_ | exact qO rfl))) (evParts_cons (qT (by repeat (first | with_reducible (first | exact qS | assumption) | refine qN rfl ?_ | exact qO rfl))) evParts_nil)) rfl rfl ?_)
  refine RP.p rfl (op_assign (qT (by repeat (first | with_reducible (first | exact qS | assumption) | refine qN rfl ?_ | exact qO rfl))) ?_)
  refine RP.nil ?_
  have f3 : Fr (fun _ => False) h2 (h2.new (.cells 2 (ofL [.int .u32 (.ofNat (D a)), .int .u32 (.ofNat (D (a + 1)))]))) := (Fr.refl hM2.m.wf).new _
  have r3 : RowX (h2.new (.cells 2 (ofL [.int .u32 (.ofNat (D a)), .int .u32 (.ofNat (D (a + 1)))]))) h.next (.slice h2.next 0 2 2 1 true) (u32L ((List.range 2).map fun j => D (a + j))) :=
    ⟨h2.next, _, true, rfl, (by show 0 < 2; decide), hF2.next, obj_new_same (by simp), fun i hi => by
      obtain rfl | rfl : i = 0 ∨ i = 1 := by have : i < 2 := hi; omega
      · exact qO rfl
      · exact qO rfl⟩
  have hM3 := hM2.fr f3 id id id
  have hF3 := hF2.trans (f3.mono fun b hb _ => hb.elim)
  refine Gives.seq ?_
  refine Gives.seq ?_
  refine Gives.region [.p 0] (by kernel_rfl) ?_
  refine RP.p rfl (op_assign (show ev _ _ = some (.int .i64 (.ofNat 2)) from rfl) ?_)
  refine RP.nil ?_
  refine Gives.block ?_
  refine Gives.loop (I := fun k F h' => ∃ i s, k + i = K + 3 ∧ 2 ≤ i ∧ F.at 0 = some (.ptr bv 0) ∧ F.at 6 = some (.int .i64 (.ofNat a)) ∧ F.at 7 = some (.int .u32 (.ofNat (D a))) ∧ F.at 9 = some (.int .u32 (.ofNat (D (a + 1)))) ∧ F.at 11 = some s ∧ F.at 12 = some (.int .i64 (.ofNat i)) ∧ RowX h' h.next s (u32L ((List.range i).map fun j => D (a + j))) ∧ VM h' bv bm bw n D Z start half ∧ Fr (two bm bw) h h')
    (fun k F h' hI => ?_) (k := K + 1) (by omega) ⟨2, _, by omega, Nat.le_refl _, (by repeat (first | with_reducible (first | exact qS | assumption) | refine qN rfl ?_ | exact qO rfl)), (by repeat (first | with_reducible (first | exact qS | assumption) | refine qN rfl ?_ | exact qO rfl)), (by repeat (first | with_reducible (first | exact qS | assumption) | refine qN rfl ?_ | exact qO rfl)), (by repeat (first | with_reducible (first | exact qS | assumption) | refine qN rfl ?_ | exact qO rfl)), (by repeat (first | with_reducible (first | exact qS | assumption) | refine qN rfl ?_ | exact qO rfl)), (by repeat (first | with_reducible (first | exact qS | assumption) | refine qN rfl ?_ | exact qO rfl)), r3, hM3, hF3⟩
  clear r3 f3 hM3 hF3 v1 v2 v3 v4
  obtain ⟨i, s, hk, hi2', e0, e6, e7, e9, e11, e12, hR, hMi, hFi⟩ := hI
  obtain ⟨cv, v1, v2, v3, v4⟩ := hMi.v.v
  refine Gives.seq ?_
  refine Gives.seq ?_
  refine Gives.region [.p 0, .p 1, .p 2, .p 3, .p 4, .p 5, .p 6] (by kernel_rfl) ?_
  refine RP.p rfl (op_move (qT (by repeat (first | with_reducible (first | exact qS | assumption) | refine qN rfl ?_ | exact qO rfl))) ?_)
  refine RP.p rfl (op_move (qT (by repeat (first | with_reducible (first | exact qS | assumption) | refine qN rfl ?_ | exact qO rfl))) ?_)
  refine RP.p rfl (op_conv (qT (by repeat (first | with_reducible (first | exact qS | assumption) | refine qN rfl ?_ | exact qO rfl))) Tryz.underlying35 Tryz.underlying3 (by have e1 : topK .i64 = 9223372036854775808 := rfl; have e2 : topK .u32 = 4294967296 := rfl; have e3 : topK .u64 = 18446744073709551616 := rfl; have e4 : topK .u8 = 256 := rfl; have e5 : topK .u16 = 65536 := rfl; omega) ?_)
  refine RP.p rfl (op_bin (qT (by repeat (first | with_reducible (first | exact qS | assumption) | refine qN rfl ?_ | exact qO rfl))) (show ev _ _ = some (.int .i64 (.ofNat 3)) from rfl) (bin_add (by have e1 : topK .i64 = 9223372036854775808 := rfl; have e2 : topK .u32 = 4294967296 := rfl; have e3 : topK .u64 = 18446744073709551616 := rfl; have e4 : topK .u8 = 256 := rfl; have e5 : topK .u16 = 65536 := rfl; omega)) ?_)
  refine RP.p rfl (op_bin (qT (by repeat (first | with_reducible (first | exact qS | assumption) | refine qN rfl ?_ | exact qO rfl))) (show ev _ _ = some (.int .i64 (.ofNat 4)) from rfl) (bin_quo (by omega) (by have e1 : topK .i64 = 9223372036854775808 := rfl; have e2 : topK .u32 = 4294967296 := rfl; have e3 : topK .u64 = 18446744073709551616 := rfl; have e4 : topK .u8 = 256 := rfl; have e5 : topK .u16 = 65536 := rfl; omega)) ?_)
  rw [hKK]
  refine RP.p rfl (op_bin (qT (by repeat (first | with_reducible (first | exact qS | assumption) | refine qN rfl ?_ | exact qO rfl))) (show ev _ _ = some (.int .i64 (.ofNat 3)) from rfl) (bin_add (by have e1 : topK .i64 = 9223372036854775808 := rfl; have e2 : topK .u32 = 4294967296 := rfl; have e3 : topK .u64 = 18446744073709551616 := rfl; have e4 : topK .u8 = 256 := rfl; have e5 : topK .u16 = 65536 := rfl; omega)) ?_)
  refine RP.p rfl (op_bin (qT (by repeat (first | with_reducible (first | exact qS | assumption) | refine qN rfl ?_ | exact qO rfl))) (qT (by repeat (first | with_reducible (first | exact qS | assumption) | refine qN rfl ?_ | exact qO rfl))) bin_lssN ?_)
  refine RP.nil ?_
  refine Gives.cond (qT (by repeat (first | with_reducible (first | exact qS | assumption) | refine qN rfl ?_ | exact qO rfl))) (fun hb => ?_) (fun hb => ?_)
  · have hlt : i < K + 3 := of_decide_eq_true hb
    obtain ⟨k, rfl⟩ : ∃ m, k = m + 1 := ⟨k - 1, by omega⟩
    refine Gives.skip ?_
    refine Gives.seq ?_
    refine Gives.block ?_
    refine Gives.seq ?_
    refine Gives.region [.p 0, .p 1, .p 2, .r 3, .p 4, .p 5, .p 6, .e 7 [], .p 8, .p 9, .p 10, .p 11, .p 12] (by kernel_rfl) ?_
    refine RP.p rfl (op_move (qT (by repeat (first | with_reducible (first | exact qS | assumption) | refine qN rfl ?_ | exact qO rfl))) ?_)
    refine RP.p rfl (op_nilCheck (qT (by repeat (first | with_reducible (first | exact qS | assumption) | refine qN rfl ?_ | exact qO rfl))) ?_)
    refine RP.p rfl (op_fieldAddr (off := 0) (qT (by repeat (first | with_reducible (first | exact qS | assumption) | refine qN rfl ?_ | exact qO rfl))) (by kernel_rfl) ?_)
    refine RP.r rfl (op_load (qT (by repeat (first | with_reducible (first | exact qS | assumption) | refine qN rfl ?_ | exact qO rfl))) (loadA_cell (by kernel_rfl) v1 (by omega) v2) ?_)
    refine RP.p rfl (op_move (qT (by repeat (first | with_reducible (first | exact qS | assumption) | refine qN rfl ?_ | exact qO rfl))) ?_)
    refine RP.p rfl (op_move (qT (by repeat (first | with_reducible (first | exact qS | assumption) | refine qN rfl ?_ | exact qO rfl))) ?_)
    refine RP.p rfl (op_bin (qT (by repeat (first | with_reducible (first | exact qS | assumption) | refine qN rfl ?_ | exact qO rfl))) (qT (by repeat (first | with_reducible (first | exact qS | assumption) | refine qN rfl ?_ | exact qO rfl))) (bin_add (by have e1 : topK .i64 = 9223372036854775808 := rfl; have e2 : topK .u32 = 4294967296 := rfl; have e3 : topK .u64 = 18446744073709551616 := rfl; have e4 : topK .u8 = 256 := rfl; have e5 : topK .u16 = 65536 := rfl; omega)) ?_)
    refine RP.e rfl (op_calls (evs_cons (qT (by repeat (first | with_reducible (first | exact qS | assumption) | refine qN rfl ?_ | exact qO rfl))) (evs_cons (qT (by repeat (first | with_reducible (first | exact qS | assumption) | refine qN rfl ?_ | exact qO rfl))) evs_nil)) (by kernel_rfl) (mread_in hS (by omega) hMi.m (a + i) (by omega)) ?_)
    rintro v h4 ⟨rfl, hm4, hf4⟩
    have hM4 := hMi.fr2 hf4 hm4
    have hR4 := hR.fr hMi.m.wf hf4 (fun b hb => by rcases hb with rfl | rfl <;> assumption)
    refine RP.p rfl (op_move (qT (by repeat (first | with_reducible (first | exact qS | assumption) | refine qN rfl ?_ | exact qO rfl))) ?_)
    refine RP.p rfl (op_extract (qT (by repeat (first | with_reducible (first | exact qS | assumption) | refine qN rfl ?_ | exact qO rfl))) rfl ?_)
    refine RP.p rfl (op_extract (qT (by repeat (first | with_reducible (first | exact qS | assumption) | refine qN rfl ?_ | exact qO rfl))) rfl ?_)
    refine RP.p rfl (op_assign (qT (by repeat (first | with_reducible (first | exact qS | assumption) | refine qN rfl ?_ | exact qO rfl))) ?_)
    refine RP.p rfl (op_assign (qT (by repeat (first | with_reducible (first | exact qS | assumption) | refine qN rfl ?_ | exact qO rfl))) ?_)
    refine RP.nil ?_
    refine Gives.seq ?_
    refine Gives.seq ?_
    refine Gives.region [.p 0, .p 1] (by kernel_rfl) ?_
    refine RP.p rfl (op_move (qT (by repeat (first | with_reducible (first | exact qS | assumption) | refine qN rfl ?_ | exact qO rfl))) ?_)
    refine RP.p rfl (op_bin (qT (by repeat (first | with_reducible (first | exact qS | assumption) | refine qN rfl ?_ | exact qO rfl))) (show ev _ _ = some (.int .i64 (.ofNat 0)) from rfl) (bin_neq_f rfl) ?_)
    refine RP.nil ?_
    refine Gives.else_ (qT (by repeat (first | with_reducible (first | exact qS | assumption) | refine qN rfl ?_ | exact qO rfl))) ?_
    refine Gives.skip ?_
    have f5 : Fr (fun _ => False) h4 (h4.new (.cells 1 (ofL [.int .u32 (.ofNat (D (a + i)))]))) := (Fr.refl hM4.m.wf).new _
    have hR5 := hR4.fr hM4.m.wf f5 (fun b hb => hb.elim)
    obtain ⟨sv, h6, a1, a2, a3⟩ := append_rowX (x := .int .u32 (.ofNat (D (a + i)))) (bytes := i35.bytes) f5.wf hR5 (by omega) (by rw [u32L_length]; simp; omega)
    refine Gives.region [.p 0, .p 1, .p 2, .e 3 [], .p 4] (by kernel_rfl) ?_
    refine RP.p rfl (op_move (qT (by repeat (first | with_reducible (first | exact qS | assumption) | refine qN rfl ?_ | exact qO rfl))) ?_)
    refine RP.p rfl (op_move (qT (by repeat (first | with_reducible (first | exact qS | assumption) | refine qN rfl ?_ | exact qO rfl))) ?_)
    refine RP.p rfl (op_buildSlice (e := 35) (s := 1) (z := .int .u32 (.ofNat 0)) (cs := [.int .u32 (.ofNat (D (a + i)))]) Tryz.underlying96 (by kernel_rfl) (by kernel_rfl) (evParts_cons (qT (by repeat (first | with_reducible (first | exact qS | assumption) | refine qN rfl ?_ | exact qO rfl))) evParts_nil) rfl rfl ?_)
    refine RP.e rfl (op_append (qT (by repeat (first | with_reducible (first | exact qS | assumption) | refine qN rfl ?_ | exact qO rfl))) (qT (by repeat (first | with_reducible (first | exact qS | assumption) | refine qN rfl ?_ | exact qO rfl))) (appendA_of (z := .int .u32 (.ofNat 0)) Tryz.underlying96 hi (by kernel_rfl) rfl hi1 (srcA_one Tryz.underlying96 (obj_new_same (by simp)) (qO rfl) rfl) a1) ?_)
    refine RP.p rfl (op_assign (qT (by repeat (first | with_reducible (first | exact qS | assumption) | refine qN rfl ?_ | exact qO rfl))) ?_)
    refine RP.nil ?_
    refine Gives.region [.p 0, .p 1, .p 2] (by kernel_rfl) ?_
    refine RP.p rfl (op_move (qT (by repeat (first | with_reducible (first | exact qS | assumption) | refine qN rfl ?_ | exact qO rfl))) ?_)
    refine RP.p rfl (op_bin (qT (by repeat (first | with_reducible (first | exact qS | assumption) | refine qN rfl ?_ | exact qO rfl))) (show ev _ _ = some (.int .i64 (.ofNat 1)) from rfl) (bin_add (by have e1 : topK .i64 = 9223372036854775808 := rfl; have e2 : topK .u32 = 4294967296 := rfl; have e3 : topK .u64 = 18446744073709551616 := rfl; have e4 : topK .u8 = 256 := rfl; have e5 : topK .u16 = 65536 := rfl; omega)) ?_)
    refine RP.p rfl (op_assign (qT (by repeat (first | with_reducible (first | exact qS | assumption) | refine qN rfl ?_ | exact qO rfl))) ?_)
    refine RP.nil ?_
    have hrow : u32L ((List.range i).map fun j => D (a + j)) ++ [AV.int .u32 (.ofNat (D (a + i)))] = u32L ((List.range (i + 1)).map fun j => D (a + j)) := by
      rw [List.range_succ, List.map_append]; unfold u32L; rw [List.map_append]; rfl
    rw [hrow] at a2
    have hM6 : VM h6 bv bm bw n D Z start half := (hM4.fr f5 id id id).fr a3 (by omega) (by omega) (by omega)
    have hF6 : Fr (two bm bw) h h6 := by
      have g1 := hFi.trans hf4
      have g2 := g1.trans (f5.mono fun b hb _ => hb.elim)
      exact ⟨a3.wf, Nat.le_trans g2.next a3.next, fun c hc hn => (a3.obj c (Nat.lt_of_lt_of_le hc g2.next) (by omega)).trans (g2.obj c hc hn)⟩
    exact ⟨k, by omega, i + 1, sv, by omega, by omega, (by repeat (first | with_reducible (first | exact qS | assumption) | refine qN rfl ?_ | exact qO rfl)), (by repeat (first | with_reducible (first | exact qS | assumption) | refine qN rfl ?_ | exact qO rfl)), (by repeat (first | with_reducible (first | exact qS | assumption) | refine qN rfl ?_ | exact qO rfl)), (by repeat (first | with_reducible (first | exact qS | assumption) | refine qN rfl ?_ | exact qO rfl)), (by repeat (first | with_reducible (first | exact qS | assumption) | refine qN rfl ?_ | exact qO rfl)), (by repeat (first | with_reducible (first | exact qS | assumption) | refine qN rfl ?_ | exact qO rfl)), a2, hM6, hF6⟩
  · have hlt : ¬ i < K + 3 := of_decide_eq_false hb
    obtain rfl : i = K + 3 := by omega
    obtain ⟨b, ex, rfl, hN, hV⟩ := hR.vals
    have hlen : (u32L ((List.range (K + 3)).map fun j => D (a + j))).length = K + 3 := by rw [u32L_length]; simp
    rw [hlen] at e11
    have hVd : Vals h' b 2 (u32L ((List.range K).map fun j => D (a + 2 + j))) := by
      obtain ⟨m, c, q1, q2, q3⟩ := hV
      rw [hlen] at q2
      refine ⟨m, c, q1, by rw [u32L_length]; simp; omega, fun j u hj => ?_⟩
      have hjK : j < K := by
        have := (List.getElem?_eq_some_iff.1 hj).1
        rw [u32L_length] at this; simpa using this
      have := q3 (2 + j) u (by
        rw [← hj]
        unfold u32L
        simp only [List.getElem?_map, List.getElem?_range (show 2 + j < K + 3 by omega), List.getElem?_range hjK, Option.map_some, Nat.add_assoc])
      rwa [Nat.zero_add] at this
    refine Gives.exit_same ?_
    refine Gives.seq ?_
    refine Gives.region [.p 0, .p 1, .p 2, .p 3, .p 4, .e 5 [], .p 6, .p 7, .p 8] (by kernel_rfl) ?_
    refine RP.p rfl (op_move (qT (by repeat (first | with_reducible (first | exact qS | assumption) | refine qN rfl ?_ | exact qO rfl))) ?_)
    refine RP.p rfl (op_move (qT (by repeat (first | with_reducible (first | exact qS | assumption) | refine qN rfl ?_ | exact qO rfl))) ?_)
    refine RP.p rfl (op_len_slice (qT (by repeat (first | with_reducible (first | exact qS | assumption) | refine qN rfl ?_ | exact qO rfl))) Tryz.underlying96 ?_)
    refine RP.p rfl (op_bin (qT (by repeat (first | with_reducible (first | exact qS | assumption) | refine qN rfl ?_ | exact qO rfl))) (show ev _ _ = some (.int .i64 (.ofNat 1)) from rfl) (bin_sub (by omega) (by have e1 : topK .i64 = 9223372036854775808 := rfl; have e2 : topK .u32 = 4294967296 := rfl; have e3 : topK .u64 = 18446744073709551616 := rfl; have e4 : topK .u8 = 256 := rfl; have e5 : topK .u16 = 65536 := rfl; omega)) ?_)
    refine RP.p rfl (op_slice (lo' := some (.int .i64 (.ofNat 2))) (hi' := some (.int .i64 (.ofNat (K + 3 - 1)))) (qT (by repeat (first | with_reducible (first | exact qS | assumption) | refine qN rfl ?_ | exact qO rfl))) rfl (evo_some (qT (by repeat (first | with_reducible (first | exact qS | assumption) | refine qN rfl ?_ | exact qO rfl)))) Tryz.underlying96 (by kernel_rfl) (bnds_lohi (by omega) (by omega)) (by omega) ?_)
    have hwl : ((List.range K).map fun j => D (a + 2 + j)).length = K := by simp
    have hsl : AV.slice b (0 + 2 * 1) (K + 3 - 1 - 2) (K + 3 - 2) 1 ex = .slice b 2 ((List.range K).map fun j => D (a + 2 + j)).length (K + 1) 1 ex := by rw [hwl]; rfl
    rw [hsl]
    have hwlt : ∀ x ∈ (List.range K).map (fun j => D (a + 2 + j)), x < 4294967296 := fun x hx => by
      obtain ⟨j, hj, rfl⟩ := List.mem_map.1 hx
      have := hD (2 + j) (by have := List.mem_range.1 hj; omega)
      rwa [← Nat.add_assoc] at this
    refine RP.e rfl (op_calls (evs_cons (qT (by repeat (first | with_reducible (first | exact qS | assumption) | refine qN rfl ?_ | exact qO rfl))) evs_nil) (by kernel_rfl) (octets_spec hS (by omega) hMi.m.wf hVd (by rw [hwl]; omega) hwlt (by rw [hwl]; omega) (by rw [hwl]; omega)) ?_)
    rintro v h5 ⟨⟨bb, cp, exb, rfl, hcp, hge, hVb⟩, hF5⟩
    have hM5 := hMi.fr hF5 id id id
    have hV5 := hV.fr hMi.m.wf hF5 id
    have hol : (octs ((List.range K).map fun j => D (a + 2 + j))).length = 4 * K := by rw [octs_length, hwl]
    have hB : rdB D a (D (a + 1)) = (octs ((List.range K).map fun j => D (a + 2 + j))).take (D (a + 1)) := by unfold rdB; rw [hKK]
    have hBl : (rdB D a (D (a + 1))).length = D (a + 1) := by rw [hB, List.length_take, hol]; omega
    refine RP.p rfl (op_move (qT (by repeat (first | with_reducible (first | exact qS | assumption) | refine qN rfl ?_ | exact qO rfl))) ?_)
    refine RP.p rfl (op_slice (lo' := none) (hi' := some (.int .u32 (.ofNat (D (a + 1))))) (qT (by repeat (first | with_reducible (first | exact qS | assumption) | refine qN rfl ?_ | exact qO rfl))) rfl (evo_some (qT (by repeat (first | with_reducible (first | exact qS | assumption) | refine qN rfl ?_ | exact qO rfl)))) Tryz.underlying26 (by kernel_rfl) (bnds_hi (by omega)) hcp ?_)
    have hsl2 : AV.slice bb (0 + 0 * 1) (D (a + 1) - 0) (cp - 0) 1 exb = .slice bb 0 (rdB D a (D (a + 1))).length cp 1 exb := by rw [hBl]; simp
    rw [hsl2]
    have hBts : Bts h5 h.next (.slice bb 0 (rdB D a (D (a + 1))).length cp 1 exb) (rdB D a (D (a + 1))) := by
      refine ⟨bb, cp, exb, rfl, by omega, Nat.le_trans hFi.next hge, ?_⟩
      have := hVb.take (k := D (a + 1))
      rw [hB]
      unfold u8L at this ⊢
      rw [List.map_take]
      exact this
    refine RP.p rfl (op_assign (qT (by repeat (first | with_reducible (first | exact qS | assumption) | refine qN rfl ?_ | exact qO rfl))) ?_)
    refine RP.nil ?_
    have hrb : ∀ x ∈ rdB D a (D (a + 1)), x < 256 := fun x hx => by rw [hB] at hx; exact octs_lt (List.mem_of_mem_take hx)
    have hL1 : (List.range (K + 3)).map (fun j => D (a + j)) = rdL D a (D (a + 1)) := by unfold rdL; rw [hKK]
    have hl1 : (rdL D a (D (a + 1))).length = K + 3 := by rw [← hL1]; simp
    rw [hL1] at hV5
    generalize rdB D a (D (a + 1)) = rb at *
    refine Gives.seq ?_
    refine Gives.seq ?_
    refine Gives.region [.p 0, .p 1, .p 2, .p 3, .e 4 [], .e 5 [], .p 6] (by kernel_rfl) ?_
    refine RP.p rfl (op_move (qT (by repeat (first | with_reducible (first | exact qS | assumption) | refine qN rfl ?_ | exact qO rfl))) ?_)
    refine RP.p rfl (op_move (qT (by repeat (first | with_reducible (first | exact qS | assumption) | refine qN rfl ?_ | exact qO rfl))) ?_)
    refine RP.p rfl (op_conv (qT (by repeat (first | with_reducible (first | exact qS | assumption) | refine qN rfl ?_ | exact qO rfl))) Tryz.underlying35 Tryz.underlying3 (by have e1 : topK .i64 = 9223372036854775808 := rfl; have e2 : topK .u32 = 4294967296 := rfl; have e3 : topK .u64 = 18446744073709551616 := rfl; have e4 : topK .u8 = 256 := rfl; have e5 : topK .u16 = 65536 := rfl; omega) ?_)
    refine RP.p rfl (op_move (qT (by repeat (first | with_reducible (first | exact qS | assumption) | refine qN rfl ?_ | exact qO rfl))) ?_)
    refine RP.e rfl (op_calls (evs_cons (qT (by repeat (first | with_reducible (first | exact qS | assumption) | refine qN rfl ?_ | exact qO rfl))) (evs_cons (qT (by repeat (first | with_reducible (first | exact qS | assumption) | refine qN rfl ?_ | exact qO rfl))) evs_nil)) (by kernel_rfl) (words_spec hS hL hM5.m.wf hBts.img hrb d0 (by omega)) ?_)
    rintro v h6 ⟨b2, rfl, hge2, hV2, hF6⟩
    have hM6 := hM5.fr hF6 id id id
    have hV6 := hV5.fr hM5.m.wf hF6 id
    have hEq : CS Tryz.prog X S L (d + 5) 109 [.slice b 0 (K + 3) (K + 3) 1 ex, .slice b2 0 (wordsK rb + 3) (wordsK rb + 3) 1 true] h6 (fun v h' => v = .bool (decide (rdL D a (D (a + 1)) = wordsS (D a) rb)) ∧ h6 = h') := by
      have := equal_spec (d := d + 4) (X := X) (S := S) (L := L) hS (c1 := K + 3) (c2 := wordsK rb + 3) (e1 := ex) (e2 := true) hV6 hV2 (by omega) (by rw [wordsS_length]; omega) (by omega) (by omega)
      rw [hl1, wordsS_length] at this; exact this
    refine RP.e rfl (op_calls (evs_cons (qT (by repeat (first | with_reducible (first | exact qS | assumption) | refine qN rfl ?_ | exact qO rfl))) (evs_cons (qT (by repeat (first | with_reducible (first | exact qS | assumption) | refine qN rfl ?_ | exact qO rfl))) evs_nil)) (by kernel_rfl) hEq ?_)
    rintro v h7 ⟨rfl, rfl⟩
    have hF7 : Fr (two bm bw) h h6 := (hFi.trans (hF5.mono fun b hb _ => hb.elim)).trans (hF6.mono fun b hb _ => hb.elim)
    by_cases hq : rdL D a (D (a + 1)) = wordsS (D a) rb
    · rw [decide_eq_true hq]
      rw [if_pos hq] at hrd
      refine RP.p rfl (op_notT (qT (by repeat (first | with_reducible (first | exact qS | assumption) | refine qN rfl ?_ | exact qO rfl))) ?_)
      refine RP.nil ?_
      refine Gives.else_ (qT (by repeat (first | with_reducible (first | exact qS | assumption) | refine qN rfl ?_ | exact qO rfl))) ?_
      refine Gives.skip ?_
      refine Gives.seq ?_
      refine Gives.region [.p 0, .p 1, .p 2, .p 3, .p 4] (by kernel_rfl) ?_
      refine RP.p rfl (op_move (qT (by repeat (first | with_reducible (first | exact qS | assumption) | refine qN rfl ?_ | exact qO rfl))) ?_)
      refine RP.p rfl (op_conv (qT (by repeat (first | with_reducible (first | exact qS | assumption) | refine qN rfl ?_ | exact qO rfl))) Tryz.underlying35 Tryz.underlying3 (by have e1 : topK .i64 = 9223372036854775808 := rfl; have e2 : topK .u32 = 4294967296 := rfl; have e3 : topK .u64 = 18446744073709551616 := rfl; have e4 : topK .u8 = 256 := rfl; have e5 : topK .u16 = 65536 := rfl; omega) ?_)
      refine RP.p rfl (op_move (qT (by repeat (first | with_reducible (first | exact qS | assumption) | refine qN rfl ?_ | exact qO rfl))) ?_)
      refine RP.p rfl (op_assign (qT (by repeat (first | with_reducible (first | exact qS | assumption) | refine qN rfl ?_ | exact qO rfl))) ?_)
      refine RP.p rfl (op_assign (qT (by repeat (first | with_reducible (first | exact qS | assumption) | refine qN rfl ?_ | exact qO rfl))) ?_)
      refine RP.nil ?_
      refine Gives.ret0 (RS.two (by repeat (first | with_reducible (first | exact qS | assumption) | refine qN rfl ?_ | exact qO rfl)) (by repeat (first | with_reducible (first | exact qS | assumption) | refine qN rfl ?_ | exact qO rfl)) ⟨_, by rw [hrd], ?_, hM6, hF7⟩)
      rw [hrd]
      obtain ⟨bq, cq, eq, z1, z2, z3, z4⟩ := hBts
      exact .inr ⟨bq, cq, eq, z1, z2, z3, z4.fr hM5.m.wf hF6 id⟩
    · rw [decide_eq_false hq]
      rw [if_neg hq] at hrd
      refine RP.p rfl (op_notF (qT (by repeat (first | with_reducible (first | exact qS | assumption) | refine qN rfl ?_ | exact qO rfl))) ?_)
      refine RP.nil ?_
      refine Gives.then_ (qT (by repeat (first | with_reducible (first | exact qS | assumption) | refine qN rfl ?_ | exact qO rfl))) ?_
      refine Gives.seq ?_
      refine Gives.region [.p 0, .p 1] (by kernel_rfl) ?_
      refine RP.p rfl (op_assign (show ev _ _ = some (.int .i64 (.ofNat 0)) from rfl) ?_)
      refine RP.p rfl (op_assign rfl ?_)
      refine RP.nil ?_
      refine Gives.ret0 (RS.two (by repeat (first | with_reducible (first | exact qS | assumption) | refine qN rfl ?_ | exact qO rfl)) (by repeat (first | with_reducible (first | exact qS | assumption) | refine qN rfl ?_ | exact qO rfl)) ⟨.snil, by rw [hrd], ?_, hM6, hF7⟩)
      rw [hrd]; exact .inl ⟨rfl, rfl⟩
end Go.Abs
