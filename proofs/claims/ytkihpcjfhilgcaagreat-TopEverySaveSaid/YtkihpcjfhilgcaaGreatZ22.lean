/- A save: what it leaves. No condition. -/
import Derived.Test.YtkihpcjfhilgcaaGreatZ21
namespace Go.Abs
open Go.Proofs
variable {X : Ext0} {S : Sums} {L : Nat} {h : H}
theorem Img.fr2 {h h' : H} {v : AV} {l : List Nat} {bm bw : Nat} (r : Img h v l) (w : WF h) (f : Fr (two bm bw) h h') (hn : ∀ b, blkOf v b → b ≠ bm ∧ b ≠ bw) : Img h' v l := by
  rcases r with r | ⟨b, o, cp, ex, rfl, h1, h2⟩
  · exact .inl r
  · exact .inr ⟨b, o, cp, ex, rfl, h1, h2.fr w f fun hb => by
      obtain ⟨n1, n2⟩ := hn b rfl
      rcases hb with hb | hb
      · exact n1 hb
      · exact n2 hb⟩
theorem wordsS_lt {g : Nat} {b : List Nat} (hb : ∀ x ∈ b, x < 256) (hg : g < 4294967296) (hn : b.length < 4294967296) : ∀ x ∈ wordsS g b, x < 4294967296 := by
  intro x hx
  unfold wordsS at hx
  rcases List.mem_append.1 hx with hx | hx
  · rcases List.mem_cons.1 hx with rfl | hx
    · exact hg
    rcases List.mem_cons.1 hx with rfl | hx
    · exact hn
    · exact body_lt hb hx
  · rcases List.mem_cons.1 hx with rfl | hx
    · exact crc32_lt (fun y hy => octs_lt hy) (by decide)
    · cases hx
theorem rdS_lt {D : Nat → Nat} {a room : Nat} (h : D a < 4294967296) : (rdS D a room).1 < 4294967296 := by
  unfold rdS
  split
  · show 0 < 4294967296; decide
  · split
    · exact h
    · show 0 < 4294967296; decide
theorem newS_lt {D : Nat → Nat} {a half : Nat} (h0 : D a < 4294967296) (h1 : D (a + half) < 4294967296) : (newS D a half).2.1 < 4294967296 := by
  unfold newS
  simp only []
  split
  · exact rdS_lt h1
  · exact rdS_lt h0
theorem svD_s0 (D : Nat → Nat) (a : Nat) (ws : List Nat) : svD D a ws (0 + 1) = updN (svD D a ws 0) a 0 := by
  conv => lhs; unfold svD
  rw [if_pos rfl]
theorem svD_s1 {D : Nat → Nat} {a j : Nat} {ws : List Nat} (h0 : j ≠ 0) (h1 : j < ws.length) : svD D a ws (j + 1) = updN (svD D a ws j) (a + j) (ws.getD j 0) := by
  conv => lhs; unfold svD
  rw [if_neg h0, if_pos h1]
theorem svD_s2 {D : Nat → Nat} {a j : Nat} {ws : List Nat} (h0 : j ≠ 0) (h1 : ¬ j < ws.length) : svD D a ws (j + 1) = updN (svD D a ws j) a (ws.getD 0 0) := by
  conv => lhs; unfold svD
  rw [if_neg h0, if_neg h1]
theorem save_spec {d : Nat} (hS : SOk S) (hL : 1000000 ≤ L) {bv bm bw n start half : Nat} {D : Nat → Nat} {Z : Nat → Prop} (hM : VM h bv bm bw n D Z start half)
    {v1 : AV} {b : List Nat} (hI : Img h v1 b) (hIb : ∀ c, blkOf v1 c → c ≠ bm ∧ c ≠ bw) (hb : ∀ x ∈ b, x < 256) (cut : Int) :
    CS Tryz.prog X S L (d + 10) 10 [.ptr bv 0, v1, .int .i64 cut] h (fun v h' => ∃ r D', v = .int .i64 (.ofNat r) ∧ VM h' bv bm bw n D' Z start half ∧ Fr (two bm bw) h h' ∧
      ((r = 0 ∧ loadS D' start half = some b) ∨ ((r = 6 ∨ r = 7 ∨ r = 17) ∧ loadS D' start half = loadS D start half))) := by
  have hs := hM.v.s
  have hh4 := hM.v.h4
  have hhh := hM.v.hh
  have hle := hM.le
  obtain ⟨l1, l2, l3⟩ := hM.lts
  have hgl : (newS D start half).2.1 < 4294967296 := newS_lt (hM.m.lt (by omega)) (hM.m.lt (by omega))
  have hol := oldS_le D start half
  have hmul : oldS D start half * half ≤ 1 * half := Nat.mul_le_mul_right half hol
  refine CS.of (rs := [.tmp 6]) (hS.none _ (by decide) (by decide)) Tryz.func10 rfl rfl ?_
  refine Gives.seq ?_
  refine Gives.region [.p 0] (by kernel_rfl) ?_
  refine RP.p rfl (op_assign (show ev _ _ = some (.int .i64 (.ofNat 0)) from rfl) ?_)
  refine RP.nil ?_
  refine Gives.seq ?_
  refine Gives.seq ?_
  refine Gives.region [.p 0, .e 1 [], .p 2] (by kernel_rfl) ?_
  refine RP.p rfl (op_move (qT (by repeat (first | with_reducible (first | exact qS | assumption) | refine qN rfl ?_ | exact qO rfl))) ?_)
  refine RP.e rfl (op_calls (evs_cons (qT (by repeat (first | with_reducible (first | exact qS | assumption) | refine qN rfl ?_ | exact qO rfl))) evs_nil) (by kernel_rfl) (usable_spec hS hM.v) ?_)
  rintro v h' ⟨rfl, rfl⟩
  refine RP.p rfl (op_notT (qT (by repeat (first | with_reducible (first | exact qS | assumption) | refine qN rfl ?_ | exact qO rfl))) ?_)
  refine RP.nil ?_
  refine Gives.else_ (qT (by repeat (first | with_reducible (first | exact qS | assumption) | refine qN rfl ?_ | exact qO rfl))) ?_
  refine Gives.skip ?_
  refine Gives.seq ?_
  refine Gives.region [.p 0, .e 1 [], .p 2, .p 3] (by kernel_rfl) ?_
  refine RP.p rfl (op_move (qT (by repeat (first | with_reducible (first | exact qS | assumption) | refine qN rfl ?_ | exact qO rfl))) ?_)
  refine RP.e rfl (op_calls (evs_cons (qT (by repeat (first | with_reducible (first | exact qS | assumption) | refine qN rfl ?_ | exact qO rfl))) evs_nil) (by kernel_rfl) (gen_spec hS hL hM) ?_)
  rintro v h1 ⟨rfl, hM1, hF1⟩
  have hI1 := hI.fr2 hM.m.wf hF1 hIb
  refine RP.p rfl (op_bin (qT (by repeat (first | with_reducible (first | exact qS | assumption) | refine qN rfl ?_ | exact qO rfl))) (show ev _ _ = some (.int .i64 (.ofNat 1)) from rfl) (bin_add (by have e1 : topK .i64 = 9223372036854775808 := rfl; have e2 : topK .u32 = 4294967296 := rfl; have e3 : topK .u64 = 18446744073709551616 := rfl; have e4 : topK .u8 = 256 := rfl; have e5 : topK .u16 = 65536 := rfl; omega)) ?_)
  refine RP.p rfl (op_assign (qT (by repeat (first | with_reducible (first | exact qS | assumption) | refine qN rfl ?_ | exact qO rfl))) ?_)
  refine RP.nil ?_
  refine Gives.seq ?_
  refine Gives.block ?_
  refine Gives.seq ?_
  refine Gives.region [.p 0, .p 1, .p 2, .e 3 [], .p 4, .p 5] (by kernel_rfl) ?_
  refine RP.p rfl (op_move (qT (by repeat (first | with_reducible (first | exact qS | assumption) | refine qN rfl ?_ | exact qO rfl))) ?_)
  refine RP.p rfl (op_len_img (qT (by repeat (first | with_reducible (first | exact qS | assumption) | refine qN rfl ?_ | exact qO rfl))) hI1 Tryz.underlying26 ?_)
  refine RP.p rfl (op_move (qT (by repeat (first | with_reducible (first | exact qS | assumption) | refine qN rfl ?_ | exact qO rfl))) ?_)
  refine RP.e rfl (op_calls (evs_cons (qT (by repeat (first | with_reducible (first | exact qS | assumption) | refine qN rfl ?_ | exact qO rfl))) evs_nil) (by kernel_rfl) (room_spec hS hM1.v) ?_)
  rintro v h' ⟨rfl, rfl⟩
  refine RP.p rfl (op_bin (qT (by repeat (first | with_reducible (first | exact qS | assumption) | refine qN rfl ?_ | exact qO rfl))) (qT (by repeat (first | with_reducible (first | exact qS | assumption) | refine qN rfl ?_ | exact qO rfl))) bin_gtrN ?_)
  refine RP.p rfl (op_assign (qT (by repeat (first | with_reducible (first | exact qS | assumption) | refine qN rfl ?_ | exact qO rfl))) ?_)
  refine RP.nil ?_
  refine Gives.cond (qT (by repeat (first | with_reducible (first | exact qS | assumption) | refine qN rfl ?_ | exact qO rfl))) (fun hc => ?_) (fun hc => ?_)
  · refine Gives.seq ?_
    refine Gives.region [.p 0] (by kernel_rfl) ?_
    refine RP.p rfl (op_assign (show ev _ _ = some (.int .i64 (.ofNat 6)) from rfl) ?_)
    refine RP.nil ?_
    exact Gives.ret1 (RS.one (by repeat (first | with_reducible (first | exact qS | assumption) | refine qN rfl ?_ | exact qO rfl)) ⟨6, D, rfl, hM1, hF1, .inr ⟨.inl rfl, rfl⟩⟩)
  have hroom : b.length ≤ 4 * (half - 3) := by have := of_decide_eq_false hc; omega
  clear hc
  refine Gives.seq ?_
  refine Gives.region [.p 0, .p 1, .p 2] (by kernel_rfl) ?_
  refine RP.p rfl (op_move (qT (by repeat (first | with_reducible (first | exact qS | assumption) | refine qN rfl ?_ | exact qO rfl))) ?_)
  refine RP.p rfl (op_bin (qT (by repeat (first | with_reducible (first | exact qS | assumption) | refine qN rfl ?_ | exact qO rfl))) (show ev _ _ = some (.int .i64 (.ofNat 4294967295)) from rfl) bin_gtrN ?_)
  refine RP.p rfl (op_assign (qT (by repeat (first | with_reducible (first | exact qS | assumption) | refine qN rfl ?_ | exact qO rfl))) ?_)
  refine RP.nil ?_
  refine Gives.cond (qT (by repeat (first | with_reducible (first | exact qS | assumption) | refine qN rfl ?_ | exact qO rfl))) (fun hc => ?_) (fun hc => ?_)
  · refine Gives.seq ?_
    refine Gives.region [.p 0] (by kernel_rfl) ?_
    refine RP.p rfl (op_assign (show ev _ _ = some (.int .i64 (.ofNat 7)) from rfl) ?_)
    refine RP.nil ?_
    exact Gives.ret1 (RS.one (by repeat (first | with_reducible (first | exact qS | assumption) | refine qN rfl ?_ | exact qO rfl)) ⟨7, D, rfl, hM1, hF1, .inr ⟨.inr (.inl rfl), rfl⟩⟩)
  have hfull : (newS D start half).2.1 + 1 < 4294967296 := by have := of_decide_eq_false hc; omega
  clear hc
  refine Gives.skip ?_
  refine Gives.seq ?_
  refine Gives.region [.p 0, .p 1, .e 2 [], .p 3] (by kernel_rfl) ?_
  refine RP.p rfl (op_move (qT (by repeat (first | with_reducible (first | exact qS | assumption) | refine qN rfl ?_ | exact qO rfl))) ?_)
  refine RP.p rfl (op_move (qT (by repeat (first | with_reducible (first | exact qS | assumption) | refine qN rfl ?_ | exact qO rfl))) ?_)
  refine RP.e rfl (op_calls (evs_cons (qT (by repeat (first | with_reducible (first | exact qS | assumption) | refine qN rfl ?_ | exact qO rfl))) (evs_cons (qT (by repeat (first | with_reducible (first | exact qS | assumption) | refine qN rfl ?_ | exact qO rfl))) evs_nil)) (by kernel_rfl) (words_spec hS hL hM1.m.wf hI1 hb hfull (by omega)) ?_)
  rintro v h2 ⟨bb, rfl, hbb, hV2, hF2⟩
  have hM2 := hM1.fr hF2 id id id
  have hwl : (wordsS ((newS D start half).2.1 + 1) b).length = wordsK b + 3 := wordsS_length _ _
  have hwlt := wordsS_lt (g := (newS D start half).2.1 + 1) hb hfull (by omega)
  have hKb : wordsK b + 3 ≤ half := by unfold wordsK; omega
  have hfin := sv_full (D := D) (start := start) (half := half) hh4 hb hroom
  have hcut : ∀ j, j ≤ (wordsS ((newS D start half).2.1 + 1) b).length → loadS (svD D (start + oldS D start half * half) (wordsS ((newS D start half).2.1 + 1) b) j) start half = loadS D start half :=
    fun j hj => sv_cut hh4 (by omega) (by omega) hj
  generalize wordsS ((newS D start half).2.1 + 1) b = ws at *
  have hbn : bb ≠ bm ∧ bb ≠ bw := by have := hF1.next; omega
  refine RP.p rfl (op_assign (qT (by repeat (first | with_reducible (first | exact qS | assumption) | refine qN rfl ?_ | exact qO rfl))) ?_)
  refine RP.nil ?_
  refine Gives.seq ?_
  refine Gives.region [.p 0, .e 1 [], .p 2] (by kernel_rfl) ?_
  refine RP.p rfl (op_move (qT (by repeat (first | with_reducible (first | exact qS | assumption) | refine qN rfl ?_ | exact qO rfl))) ?_)
  refine RP.e rfl (op_calls (evs_cons (qT (by repeat (first | with_reducible (first | exact qS | assumption) | refine qN rfl ?_ | exact qO rfl))) evs_nil) (by kernel_rfl) (olderAt_spec hS hL hM2) ?_)
  rintro v h3 ⟨rfl, hM3, hF3⟩
  have hV3 := hV2.fr hM2.m.wf hF3 fun hq => by rcases hq with hq | hq; exact hbn.1 hq; exact hbn.2 hq
  have hF30 : Fr (two bm bw) h h3 := (hF1.trans (hF2.mono fun b hb _ => hb.elim)).trans hF3
  generalize ha : start + oldS D start half * half = a at *
  have han : a + half ≤ n := by omega
  refine RP.p rfl (op_assign (qT (by repeat (first | with_reducible (first | exact qS | assumption) | refine qN rfl ?_ | exact qO rfl))) ?_)
  refine RP.nil ?_
  refine Gives.seq ?_
  refine Gives.region [.p 0, .p 1, .p 2, .p 3] (by kernel_rfl) ?_
  refine RP.p rfl (op_move (qT (by repeat (first | with_reducible (first | exact qS | assumption) | refine qN rfl ?_ | exact qO rfl))) ?_)
  refine RP.p rfl (op_len_slice (qT (by repeat (first | with_reducible (first | exact qS | assumption) | refine qN rfl ?_ | exact qO rfl))) Tryz.underlying96 ?_)
  refine RP.p rfl (op_bin (qT (by repeat (first | with_reducible (first | exact qS | assumption) | refine qN rfl ?_ | exact qO rfl))) (show ev _ _ = some (.int .i64 (.ofNat 1)) from rfl) (bin_add (by have e1 : topK .i64 = 9223372036854775808 := rfl; have e2 : topK .u32 = 4294967296 := rfl; have e3 : topK .u64 = 18446744073709551616 := rfl; have e4 : topK .u8 = 256 := rfl; have e5 : topK .u16 = 65536 := rfl; omega)) ?_)
  refine RP.p rfl (op_assign (qT (by repeat (first | with_reducible (first | exact qS | assumption) | refine qN rfl ?_ | exact qO rfl))) ?_)
  refine RP.nil ?_
  refine Gives.seq ?_
  refine Gives.region [.p 0, .p 1] (by kernel_rfl) ?_
  refine RP.p rfl (op_move (qT (by repeat (first | with_reducible (first | exact qS | assumption) | refine qN rfl ?_ | exact qO rfl))) ?_)
  refine RP.p rfl (op_assign (qT (by repeat (first | with_reducible (first | exact qS | assumption) | refine qN rfl ?_ | exact qO rfl))) ?_)
  refine RP.nil ?_
  refine Gives.seq ?_
  refine Gives.mono (N := fun F' h' => ∃ dn, dn ≤ wordsK b + 3 + 1 ∧ F'.at 0 = some (.ptr bv 0) ∧ F'.at 8 = some (.slice bb 0 (wordsK b + 3) (wordsK b + 3) 1 true) ∧ F'.at 9 = some (.int .i64 (.ofNat a)) ∧ F'.at 10 = some (.int .i64 (.ofNat (wordsK b + 3 + 1))) ∧ F'.at 11 = some (.int .i64 (.ofNat dn)) ∧ h3 = h')
    (B := fun _ _ _ => False) ?_ ?_ (fun _ _ _ hq => hq.elim)
  · refine Gives.seq ?_
    refine Gives.region [.p 0, .p 1] (by kernel_rfl) ?_
    refine RP.p rfl (op_move (qT (by repeat (first | with_reducible (first | exact qS | assumption) | refine qN rfl ?_ | exact qO rfl))) ?_)
    refine RP.p rfl (op_bin (qT (by repeat (first | with_reducible (first | exact qS | assumption) | refine qN rfl ?_ | exact qO rfl))) (show ev _ _ = some (.int .i64 (.ofNat 0)) from rfl) bin_geq ?_)
    refine RP.nil ?_
    refine Gives.cond (qT (by repeat (first | with_reducible (first | exact qS | assumption) | refine qN rfl ?_ | exact qO rfl))) (fun hc => ?_) (fun hc => ?_)
    · obtain ⟨c, rfl⟩ : ∃ c : Nat, cut = .ofNat c := ⟨cut.toNat, by have := of_decide_eq_true hc; simp at this; simp; omega⟩
      have hmin : (if Int.ofNat (wordsK b + 3 + 1) < Int.ofNat c then Int.ofNat (wordsK b + 3 + 1) else Int.ofNat c) = Int.ofNat (min c (wordsK b + 3 + 1)) := by
        simp only [Int.ofNat_eq_natCast]
        split <;> omega
      refine Gives.region [.p 0, .p 1, .p 2, .p 3] (by kernel_rfl) ?_
      refine RP.p rfl (op_move (qT (by repeat (first | with_reducible (first | exact qS | assumption) | refine qN rfl ?_ | exact qO rfl))) ?_)
      refine RP.p rfl (op_move (qT (by repeat (first | with_reducible (first | exact qS | assumption) | refine qN rfl ?_ | exact qO rfl))) ?_)
      refine RP.p rfl (op_min (qT (by repeat (first | with_reducible (first | exact qS | assumption) | refine qN rfl ?_ | exact qO rfl))) (qT (by repeat (first | with_reducible (first | exact qS | assumption) | refine qN rfl ?_ | exact qO rfl))) ?_)
      rw [hmin]
      refine RP.p rfl (op_assign (qT (by repeat (first | with_reducible (first | exact qS | assumption) | refine qN rfl ?_ | exact qO rfl))) ?_)
      refine RP.nil ?_
      exact ⟨min c (wordsK b + 3 + 1), by omega, (by repeat (first | with_reducible (first | exact qS | assumption) | refine qN rfl ?_ | exact qO rfl)), (by repeat (first | with_reducible (first | exact qS | assumption) | refine qN rfl ?_ | exact qO rfl)), (by repeat (first | with_reducible (first | exact qS | assumption) | refine qN rfl ?_ | exact qO rfl)), (by repeat (first | with_reducible (first | exact qS | assumption) | refine qN rfl ?_ | exact qO rfl)), (by repeat (first | with_reducible (first | exact qS | assumption) | refine qN rfl ?_ | exact qO rfl)), rfl⟩
    · refine Gives.skip ?_
      exact ⟨wordsK b + 3 + 1, by omega, (by repeat (first | with_reducible (first | exact qS | assumption) | refine qN rfl ?_ | exact qO rfl)), (by repeat (first | with_reducible (first | exact qS | assumption) | refine qN rfl ?_ | exact qO rfl)), (by repeat (first | with_reducible (first | exact qS | assumption) | refine qN rfl ?_ | exact qO rfl)), (by repeat (first | with_reducible (first | exact qS | assumption) | refine qN rfl ?_ | exact qO rfl)), (by repeat (first | with_reducible (first | exact qS | assumption) | refine qN rfl ?_ | exact qO rfl)), rfl⟩
  rintro F1 h' ⟨dn, hdn, e0, e8, e9, e10, e11, rfl⟩
  refine Gives.seq ?_
  refine Gives.seq ?_
  refine Gives.region [.p 0, .p 1] (by kernel_rfl) ?_
  refine RP.p rfl (op_move (qT (by repeat (first | with_reducible (first | exact qS | assumption) | refine qN rfl ?_ | exact qO rfl))) ?_)
  refine RP.p rfl (op_move (show ev _ _ = some (.int .i64 (.ofNat 0)) from rfl) ?_)
  refine RP.nil ?_
  refine Gives.block ?_
  refine Gives.loop (I := fun k F h' => ∃ i, k + i = dn ∧ F.at 0 = some (.ptr bv 0) ∧ F.at 8 = some (.slice bb 0 (wordsK b + 3) (wordsK b + 3) 1 true) ∧ F.at 9 = some (.int .i64 (.ofNat a)) ∧ F.at 10 = some (.int .i64 (.ofNat (wordsK b + 3 + 1))) ∧ F.at 11 = some (.int .i64 (.ofNat dn)) ∧ F.at 42 = some (.int .i64 (.ofNat dn)) ∧ F.at 43 = some (.int .i64 (.ofNat i)) ∧
      VM h' bv bm bw n (svD D a ws i) Z start half ∧ Vals h' bb 0 (u32L ws) ∧ Fr (two bm bw) h h')
    (fun k F h' hI => ?_) (k := dn) (by omega) ⟨0, by omega, (by repeat (first | with_reducible (first | exact qS | assumption) | refine qN rfl ?_ | exact qO rfl)), (by repeat (first | with_reducible (first | exact qS | assumption) | refine qN rfl ?_ | exact qO rfl)), (by repeat (first | with_reducible (first | exact qS | assumption) | refine qN rfl ?_ | exact qO rfl)), (by repeat (first | with_reducible (first | exact qS | assumption) | refine qN rfl ?_ | exact qO rfl)), (by repeat (first | with_reducible (first | exact qS | assumption) | refine qN rfl ?_ | exact qO rfl)), (by repeat (first | with_reducible (first | exact qS | assumption) | refine qN rfl ?_ | exact qO rfl)), (by repeat (first | with_reducible (first | exact qS | assumption) | refine qN rfl ?_ | exact qO rfl)), hM3, hV3, hF30⟩
  clear hM3 hV3 hF30 e0 e8 e9 e10 e11
  obtain ⟨i, hk, e0, e8, e9, e10, e11, e42, e43, hMi, hVi, hFi⟩ := hI
  obtain ⟨cv, v1, v2, v3, v4⟩ := hMi.v.v
  refine Gives.seq ?_
  refine Gives.region [.p 0] (by kernel_rfl) ?_
  refine RP.p rfl (op_bin (qT (by repeat (first | with_reducible (first | exact qS | assumption) | refine qN rfl ?_ | exact qO rfl))) (qT (by repeat (first | with_reducible (first | exact qS | assumption) | refine qN rfl ?_ | exact qO rfl))) bin_lssN ?_)
  refine RP.nil ?_
  refine Gives.seq ?_
  refine Gives.cond (qT (by repeat (first | with_reducible (first | exact qS | assumption) | refine qN rfl ?_ | exact qO rfl))) (fun hc => ?_) (fun hc => ?_)
  · have hi : i < dn := of_decide_eq_true hc
    clear hc
    obtain ⟨k, rfl⟩ : ∃ m, k = m + 1 := ⟨k - 1, by omega⟩
    have hgd : ∀ j, j < ws.length → (u32L ws)[j]? = some (.int .u32 (.ofNat (ws.getD j 0))) ∧ ws.getD j 0 < 4294967296 := fun j hj => by
      have hg : ws.getD j 0 = ws[j] := by simp [List.getD_eq_getElem?_getD, hj]
      rw [hg]
      exact ⟨u32L_get (List.getElem?_eq_getElem hj), hwlt _ (List.getElem_mem hj)⟩
    refine Gives.skip ?_
    refine Gives.seq ?_
    refine Gives.block ?_
    refine Gives.seq ?_
    refine Gives.region [.p 0, .p 1] (by kernel_rfl) ?_
    refine RP.p rfl (op_move (qT (by repeat (first | with_reducible (first | exact qS | assumption) | refine qN rfl ?_ | exact qO rfl))) ?_)
    refine RP.p rfl (op_assign (qT (by repeat (first | with_reducible (first | exact qS | assumption) | refine qN rfl ?_ | exact qO rfl))) ?_)
    refine RP.nil ?_
    refine Gives.block ?_
    refine Gives.seq ?_
    refine Gives.region [.p 0, .p 1, .p 2] (by kernel_rfl) ?_
    refine RP.p rfl (op_move (qT (by repeat (first | with_reducible (first | exact qS | assumption) | refine qN rfl ?_ | exact qO rfl))) ?_)
    refine RP.p rfl (op_bin (qT (by repeat (first | with_reducible (first | exact qS | assumption) | refine qN rfl ?_ | exact qO rfl))) (show ev _ _ = some (.int .i64 (.ofNat 0)) from rfl) bin_eqlN ?_)
    refine RP.p rfl (op_assign (qT (by repeat (first | with_reducible (first | exact qS | assumption) | refine qN rfl ?_ | exact qO rfl))) ?_)
    refine RP.nil ?_
    refine Gives.cond (qT (by repeat (first | with_reducible (first | exact qS | assumption) | refine qN rfl ?_ | exact qO rfl))) (fun hc => ?_) (fun hc => ?_)
    · obtain rfl : i = 0 := of_decide_eq_true hc
      clear hc
      refine Gives.region [.p 0, .p 1, .p 2, .r 3, .p 4, .e 5 []] (by kernel_rfl) ?_
      refine RP.p rfl (op_move (qT (by repeat (first | with_reducible (first | exact qS | assumption) | refine qN rfl ?_ | exact qO rfl))) ?_)
      refine RP.p rfl (op_nilCheck (qT (by repeat (first | with_reducible (first | exact qS | assumption) | refine qN rfl ?_ | exact qO rfl))) ?_)
      refine RP.p rfl (op_fieldAddr (off := 0) (qT (by repeat (first | with_reducible (first | exact qS | assumption) | refine qN rfl ?_ | exact qO rfl))) (by kernel_rfl) ?_)
      refine RP.r rfl (op_load (qT (by repeat (first | with_reducible (first | exact qS | assumption) | refine qN rfl ?_ | exact qO rfl))) (loadA_cell (by kernel_rfl) v1 (by omega) v2) ?_)
      refine RP.p rfl (op_move (qT (by repeat (first | with_reducible (first | exact qS | assumption) | refine qN rfl ?_ | exact qO rfl))) ?_)
      refine RP.e rfl (op_calls (evs_cons (qT (by repeat (first | with_reducible (first | exact qS | assumption) | refine qN rfl ?_ | exact qO rfl))) (evs_cons (qT (by repeat (first | with_reducible (first | exact qS | assumption) | refine qN rfl ?_ | exact qO rfl))) (evs_cons (show ev _ _ = some (.int .u32 (.ofNat 0)) from rfl) evs_nil))) (by kernel_rfl) (mwrite_spec hS (by omega) hMi.m a 0 (by omega) (by decide)) ?_)
      rintro v h4 ⟨rfl, hm4, hf4⟩
      have hM4 := hMi.fr2 hf4 hm4
      have hV4 := hVi.fr hMi.m.wf hf4 fun hq => by rcases hq with hq | hq; exact hbn.1 hq; exact hbn.2 hq
      have hF4 := hFi.trans hf4
      rw [← svD_s0] at hM4
      refine RP.nil ?_
      refine Gives.region [.p 0, .p 1] (by kernel_rfl) ?_
      refine RP.p rfl (op_bin (qT (by repeat (first | with_reducible (first | exact qS | assumption) | refine qN rfl ?_ | exact qO rfl))) (show ev _ _ = some (.int .i64 (.ofNat 1)) from rfl) (bin_add (by have e1 : topK .i64 = 9223372036854775808 := rfl; have e2 : topK .u32 = 4294967296 := rfl; have e3 : topK .u64 = 18446744073709551616 := rfl; have e4 : topK .u8 = 256 := rfl; have e5 : topK .u16 = 65536 := rfl; omega)) ?_)
      refine RP.p rfl (op_move (qT (by repeat (first | with_reducible (first | exact qS | assumption) | refine qN rfl ?_ | exact qO rfl))) ?_)
      refine RP.nil ?_
      exact ⟨k, by omega, 0 + 1, by omega, (by repeat (first | with_reducible (first | exact qS | assumption) | refine qN rfl ?_ | exact qO rfl)), (by repeat (first | with_reducible (first | exact qS | assumption) | refine qN rfl ?_ | exact qO rfl)), (by repeat (first | with_reducible (first | exact qS | assumption) | refine qN rfl ?_ | exact qO rfl)), (by repeat (first | with_reducible (first | exact qS | assumption) | refine qN rfl ?_ | exact qO rfl)), (by repeat (first | with_reducible (first | exact qS | assumption) | refine qN rfl ?_ | exact qO rfl)), (by repeat (first | with_reducible (first | exact qS | assumption) | refine qN rfl ?_ | exact qO rfl)), (by repeat (first | with_reducible (first | exact qS | assumption) | refine qN rfl ?_ | exact qO rfl)), hM4, hV4, hF4⟩
    have hi0 : i ≠ 0 := of_decide_eq_false hc
    clear hc
    refine Gives.seq ?_
    refine Gives.region [.p 0, .p 1, .p 2, .p 3, .p 4] (by kernel_rfl) ?_
    refine RP.p rfl (op_move (qT (by repeat (first | with_reducible (first | exact qS | assumption) | refine qN rfl ?_ | exact qO rfl))) ?_)
    refine RP.p rfl (op_move (qT (by repeat (first | with_reducible (first | exact qS | assumption) | refine qN rfl ?_ | exact qO rfl))) ?_)
    refine RP.p rfl (op_len_slice (qT (by repeat (first | with_reducible (first | exact qS | assumption) | refine qN rfl ?_ | exact qO rfl))) Tryz.underlying96 ?_)
    refine RP.p rfl (op_bin (qT (by repeat (first | with_reducible (first | exact qS | assumption) | refine qN rfl ?_ | exact qO rfl))) (qT (by repeat (first | with_reducible (first | exact qS | assumption) | refine qN rfl ?_ | exact qO rfl))) bin_lssN ?_)
    refine RP.p rfl (op_assign (qT (by repeat (first | with_reducible (first | exact qS | assumption) | refine qN rfl ?_ | exact qO rfl))) ?_)
    refine RP.nil ?_
    refine Gives.cond (qT (by repeat (first | with_reducible (first | exact qS | assumption) | refine qN rfl ?_ | exact qO rfl))) (fun hc => ?_) (fun hc => ?_)
    · have hil : i < wordsK b + 3 := of_decide_eq_true hc
      clear hc
      obtain ⟨hg1, hg2⟩ := hgd i (by omega)
      refine Gives.region [.p 0, .p 1, .p 2, .r 3, .p 4, .p 5, .p 6, .p 7, .p 8, .p 9, .r 10, .e 11 []] (by kernel_rfl) ?_
      refine RP.p rfl (op_move (qT (by repeat (first | with_reducible (first | exact qS | assumption) | refine qN rfl ?_ | exact qO rfl))) ?_)
      refine RP.p rfl (op_nilCheck (qT (by repeat (first | with_reducible (first | exact qS | assumption) | refine qN rfl ?_ | exact qO rfl))) ?_)
      refine RP.p rfl (op_fieldAddr (off := 0) (qT (by repeat (first | with_reducible (first | exact qS | assumption) | refine qN rfl ?_ | exact qO rfl))) (by kernel_rfl) ?_)
      refine RP.r rfl (op_load (qT (by repeat (first | with_reducible (first | exact qS | assumption) | refine qN rfl ?_ | exact qO rfl))) (loadA_cell (by kernel_rfl) v1 (by omega) v2) ?_)
      refine RP.p rfl (op_move (qT (by repeat (first | with_reducible (first | exact qS | assumption) | refine qN rfl ?_ | exact qO rfl))) ?_)
      refine RP.p rfl (op_move (qT (by repeat (first | with_reducible (first | exact qS | assumption) | refine qN rfl ?_ | exact qO rfl))) ?_)
      refine RP.p rfl (op_bin (qT (by repeat (first | with_reducible (first | exact qS | assumption) | refine qN rfl ?_ | exact qO rfl))) (qT (by repeat (first | with_reducible (first | exact qS | assumption) | refine qN rfl ?_ | exact qO rfl))) (bin_add (by have e1 : topK .i64 = 9223372036854775808 := rfl; have e2 : topK .u32 = 4294967296 := rfl; have e3 : topK .u64 = 18446744073709551616 := rfl; have e4 : topK .u8 = 256 := rfl; have e5 : topK .u16 = 65536 := rfl; omega)) ?_)
      refine RP.p rfl (op_move (qT (by repeat (first | with_reducible (first | exact qS | assumption) | refine qN rfl ?_ | exact qO rfl))) ?_)
      refine RP.p rfl (op_move (qT (by repeat (first | with_reducible (first | exact qS | assumption) | refine qN rfl ?_ | exact qO rfl))) ?_)
      refine RP.p rfl (op_indexAddr (qT (by repeat (first | with_reducible (first | exact qS | assumption) | refine qN rfl ?_ | exact qO rfl))) (qT (by repeat (first | with_reducible (first | exact qS | assumption) | refine qN rfl ?_ | exact qO rfl))) Tryz.underlying96 (by kernel_rfl) hil (Nat.le_refl _) ?_)
      refine RP.r rfl (op_load (qT (by repeat (first | with_reducible (first | exact qS | assumption) | refine qN rfl ?_ | exact qO rfl))) (hVi.load (by kernel_rfl) hg1) ?_)
      refine RP.e rfl (op_calls (evs_cons (qT (by repeat (first | with_reducible (first | exact qS | assumption) | refine qN rfl ?_ | exact qO rfl))) (evs_cons (qT (by repeat (first | with_reducible (first | exact qS | assumption) | refine qN rfl ?_ | exact qO rfl))) (evs_cons (qT (by repeat (first | with_reducible (first | exact qS | assumption) | refine qN rfl ?_ | exact qO rfl))) evs_nil))) (by kernel_rfl) (mwrite_spec hS (by omega) hMi.m (a + i) _ (by omega) hg2) ?_)
      rintro v h4 ⟨rfl, hm4, hf4⟩
      have hM4 := hMi.fr2 hf4 hm4
      have hV4 := hVi.fr hMi.m.wf hf4 fun hq => by rcases hq with hq | hq; exact hbn.1 hq; exact hbn.2 hq
      have hF4 := hFi.trans hf4
      rw [← svD_s1 hi0 (by omega)] at hM4
      refine RP.nil ?_
      refine Gives.region [.p 0, .p 1] (by kernel_rfl) ?_
      refine RP.p rfl (op_bin (qT (by repeat (first | with_reducible (first | exact qS | assumption) | refine qN rfl ?_ | exact qO rfl))) (show ev _ _ = some (.int .i64 (.ofNat 1)) from rfl) (bin_add (by have e1 : topK .i64 = 9223372036854775808 := rfl; have e2 : topK .u32 = 4294967296 := rfl; have e3 : topK .u64 = 18446744073709551616 := rfl; have e4 : topK .u8 = 256 := rfl; have e5 : topK .u16 = 65536 := rfl; omega)) ?_)
      refine RP.p rfl (op_move (qT (by repeat (first | with_reducible (first | exact qS | assumption) | refine qN rfl ?_ | exact qO rfl))) ?_)
      refine RP.nil ?_
      exact ⟨k, by omega, i + 1, by omega, (by repeat (first | with_reducible (first | exact qS | assumption) | refine qN rfl ?_ | exact qO rfl)), (by repeat (first | with_reducible (first | exact qS | assumption) | refine qN rfl ?_ | exact qO rfl)), (by repeat (first | with_reducible (first | exact qS | assumption) | refine qN rfl ?_ | exact qO rfl)), (by repeat (first | with_reducible (first | exact qS | assumption) | refine qN rfl ?_ | exact qO rfl)), (by repeat (first | with_reducible (first | exact qS | assumption) | refine qN rfl ?_ | exact qO rfl)), (by repeat (first | with_reducible (first | exact qS | assumption) | refine qN rfl ?_ | exact qO rfl)), (by repeat (first | with_reducible (first | exact qS | assumption) | refine qN rfl ?_ | exact qO rfl)), hM4, hV4, hF4⟩
    · have hil : ¬ i < wordsK b + 3 := of_decide_eq_false hc
      clear hc
      obtain ⟨hg1, hg2⟩ := hgd 0 (by omega)
      refine Gives.region [.p 0, .p 1, .p 2, .r 3, .p 4, .p 5, .p 6, .r 7, .e 8 []] (by kernel_rfl) ?_
      refine RP.p rfl (op_move (qT (by repeat (first | with_reducible (first | exact qS | assumption) | refine qN rfl ?_ | exact qO rfl))) ?_)
      refine RP.p rfl (op_nilCheck (qT (by repeat (first | with_reducible (first | exact qS | assumption) | refine qN rfl ?_ | exact qO rfl))) ?_)
      refine RP.p rfl (op_fieldAddr (off := 0) (qT (by repeat (first | with_reducible (first | exact qS | assumption) | refine qN rfl ?_ | exact qO rfl))) (by kernel_rfl) ?_)
      refine RP.r rfl (op_load (qT (by repeat (first | with_reducible (first | exact qS | assumption) | refine qN rfl ?_ | exact qO rfl))) (loadA_cell (by kernel_rfl) v1 (by omega) v2) ?_)
      refine RP.p rfl (op_move (qT (by repeat (first | with_reducible (first | exact qS | assumption) | refine qN rfl ?_ | exact qO rfl))) ?_)
      refine RP.p rfl (op_move (qT (by repeat (first | with_reducible (first | exact qS | assumption) | refine qN rfl ?_ | exact qO rfl))) ?_)
      refine RP.p rfl (op_indexAddr (qT (by repeat (first | with_reducible (first | exact qS | assumption) | refine qN rfl ?_ | exact qO rfl))) (show ev _ _ = some (.int .i64 (.ofNat 0)) from rfl) Tryz.underlying96 (by kernel_rfl) (by omega) (Nat.le_refl _) ?_)
      refine RP.r rfl (op_load (qT (by repeat (first | with_reducible (first | exact qS | assumption) | refine qN rfl ?_ | exact qO rfl))) (hVi.load (by kernel_rfl) hg1) ?_)
      refine RP.e rfl (op_calls (evs_cons (qT (by repeat (first | with_reducible (first | exact qS | assumption) | refine qN rfl ?_ | exact qO rfl))) (evs_cons (qT (by repeat (first | with_reducible (first | exact qS | assumption) | refine qN rfl ?_ | exact qO rfl))) (evs_cons (qT (by repeat (first | with_reducible (first | exact qS | assumption) | refine qN rfl ?_ | exact qO rfl))) evs_nil))) (by kernel_rfl) (mwrite_spec hS (by omega) hMi.m a _ (by omega) hg2) ?_)
      rintro v h4 ⟨rfl, hm4, hf4⟩
      have hM4 := hMi.fr2 hf4 hm4
      have hV4 := hVi.fr hMi.m.wf hf4 fun hq => by rcases hq with hq | hq; exact hbn.1 hq; exact hbn.2 hq
      have hF4 := hFi.trans hf4
      rw [← svD_s2 hi0 (by omega)] at hM4
      refine RP.nil ?_
      refine Gives.region [.p 0, .p 1] (by kernel_rfl) ?_
      refine RP.p rfl (op_bin (qT (by repeat (first | with_reducible (first | exact qS | assumption) | refine qN rfl ?_ | exact qO rfl))) (show ev _ _ = some (.int .i64 (.ofNat 1)) from rfl) (bin_add (by have e1 : topK .i64 = 9223372036854775808 := rfl; have e2 : topK .u32 = 4294967296 := rfl; have e3 : topK .u64 = 18446744073709551616 := rfl; have e4 : topK .u8 = 256 := rfl; have e5 : topK .u16 = 65536 := rfl; omega)) ?_)
      refine RP.p rfl (op_move (qT (by repeat (first | with_reducible (first | exact qS | assumption) | refine qN rfl ?_ | exact qO rfl))) ?_)
      refine RP.nil ?_
      exact ⟨k, by omega, i + 1, by omega, (by repeat (first | with_reducible (first | exact qS | assumption) | refine qN rfl ?_ | exact qO rfl)), (by repeat (first | with_reducible (first | exact qS | assumption) | refine qN rfl ?_ | exact qO rfl)), (by repeat (first | with_reducible (first | exact qS | assumption) | refine qN rfl ?_ | exact qO rfl)), (by repeat (first | with_reducible (first | exact qS | assumption) | refine qN rfl ?_ | exact qO rfl)), (by repeat (first | with_reducible (first | exact qS | assumption) | refine qN rfl ?_ | exact qO rfl)), (by repeat (first | with_reducible (first | exact qS | assumption) | refine qN rfl ?_ | exact qO rfl)), (by repeat (first | with_reducible (first | exact qS | assumption) | refine qN rfl ?_ | exact qO rfl)), hM4, hV4, hF4⟩
  · have hi : ¬ i < dn := of_decide_eq_false hc
    clear hc
    obtain rfl : i = dn := by omega
    refine Gives.exit_same ?_
    refine Gives.seq ?_
    refine Gives.seq ?_
    refine Gives.region [.p 0, .p 1, .p 2] (by kernel_rfl) ?_
    refine RP.p rfl (op_move (qT (by repeat (first | with_reducible (first | exact qS | assumption) | refine qN rfl ?_ | exact qO rfl))) ?_)
    refine RP.p rfl (op_move (qT (by repeat (first | with_reducible (first | exact qS | assumption) | refine qN rfl ?_ | exact qO rfl))) ?_)
    refine RP.p rfl (op_bin (qT (by repeat (first | with_reducible (first | exact qS | assumption) | refine qN rfl ?_ | exact qO rfl))) (qT (by repeat (first | with_reducible (first | exact qS | assumption) | refine qN rfl ?_ | exact qO rfl))) bin_lssN ?_)
    refine RP.nil ?_
    refine Gives.cond (qT (by repeat (first | with_reducible (first | exact qS | assumption) | refine qN rfl ?_ | exact qO rfl))) (fun hc => ?_) (fun hc => ?_)
    · have hlt := of_decide_eq_true hc
      refine Gives.seq ?_
      refine Gives.region [.p 0] (by kernel_rfl) ?_
      refine RP.p rfl (op_assign (show ev _ _ = some (.int .i64 (.ofNat 17)) from rfl) ?_)
      refine RP.nil ?_
      exact Gives.ret0 (RS.one (by repeat (first | with_reducible (first | exact qS | assumption) | refine qN rfl ?_ | exact qO rfl)) ⟨17, _, rfl, hMi, hFi, .inr ⟨.inr (.inr rfl), hcut i (by omega)⟩⟩)
    · have hlt := of_decide_eq_false hc
      refine Gives.skip ?_
      refine Gives.seq ?_
      refine Gives.region [.p 0] (by kernel_rfl) ?_
      refine RP.p rfl (op_assign (show ev _ _ = some (.int .i64 (.ofNat 0)) from rfl) ?_)
      refine RP.nil ?_
      have hie : i = ws.length + 1 := by omega
      rw [← hie] at hfin
      exact Gives.ret0 (RS.one (by repeat (first | with_reducible (first | exact qS | assumption) | refine qN rfl ?_ | exact qO rfl)) ⟨0, _, rfl, hMi, hFi, .inl ⟨rfl, hfin⟩⟩)
end Go.Abs

/- Rows of numbers that are handed in, and whether upsets concern different words. No condition. -/
namespace Go.Abs
open Go.Proofs
variable {X : Ext0} {S : Sums} {L : Nat} {h : H}
def Ints (h : H) (N : Nat) (v : AV) (l : List Int) : Prop := (v = .snil ∧ l = []) ∨ ∃ b o cp, v = .slice b o l.length cp 1 true ∧ l.length ≤ cp ∧ b < N ∧ ∀ i x, l[i]? = some x → loadA Tryz.prog h 3 b (o + i) = some (.int .i64 x)
def Rows2 (h : H) (N : Nat) (v : AV) (ls : List (List Int)) : Prop := (v = .snil ∧ ls = []) ∨ ∃ b o cp, v = .slice b o ls.length cp 1 true ∧ ls.length ≤ cp ∧ b < N ∧ ∀ i l, ls[i]? = some l → ∃ s, loadA Tryz.prog h 22 b (o + i) = some s ∧ Ints h N s l
theorem loadA_fr {h h' : H} {t : TypeId} {b o : Nat} {v : AV} (w : WF h) {B : Nat → Prop} (f : Fr B h h') (hn : ¬ B b) (h1 : loadA Tryz.prog h t b o = some v) : loadA Tryz.prog h' t b o = some v := by
  have h2 : b < h.next := by
    rcases Nat.lt_or_ge b h.next with h3 | h3
    · exact h3
    · unfold loadA at h1; rw [w b h3] at h1; cases h1
  have h3 := f.obj b h2 hn
  unfold loadA at h1 ⊢
  rw [h3]; exact h1
theorem Ints.fr {h h' : H} {N : Nat} {v : AV} {l : List Int} (r : Ints h N v l) (w : WF h) {B : Nat → Prop} (f : Fr B h h') (hB : ∀ b, B b → N ≤ b) : Ints h' N v l := by
  rcases r with r | ⟨b, o, cp, rfl, h1, h2, h3⟩
  · exact .inl r
  · exact .inr ⟨b, o, cp, rfl, h1, h2, fun i x hx => loadA_fr w f (fun hb => by have := hB b hb; omega) (h3 i x hx)⟩
theorem Rows2.fr {h h' : H} {N : Nat} {v : AV} {ls : List (List Int)} (r : Rows2 h N v ls) (w : WF h) {B : Nat → Prop} (f : Fr B h h') (hB : ∀ b, B b → N ≤ b) : Rows2 h' N v ls := by
  rcases r with r | ⟨b, o, cp, rfl, h1, h2, h3⟩
  · exact .inl r
  · refine .inr ⟨b, o, cp, rfl, h1, h2, fun i l hl => ?_⟩
    obtain ⟨s, h4, h5⟩ := h3 i l hl
    exact ⟨s, loadA_fr w f (fun hb => by have := hB b hb; omega) h4, h5.fr w f hB⟩
theorem Ints.slice {N : Nat} {v : AV} {l : List Int} (r : Ints h N v l) (hl : 0 < l.length) : ∃ b o cp, v = .slice b o l.length cp 1 true ∧ l.length ≤ cp ∧ ∀ i x, l[i]? = some x → loadA Tryz.prog h 3 b (o + i * 1) = some (.int .i64 x) := by
  rcases r with ⟨_, rfl⟩ | ⟨b, o, cp, rfl, h1, h2, h3⟩
  · exact absurd hl (Nat.lt_irrefl _)
  · exact ⟨b, o, cp, rfl, h1, fun i x hx => by rw [Nat.mul_one]; exact h3 i x hx⟩
theorem Rows2.slice {N : Nat} {v : AV} {ls : List (List Int)} (r : Rows2 h N v ls) (hl : 0 < ls.length) : ∃ b o cp, v = .slice b o ls.length cp 1 true ∧ ls.length ≤ cp ∧ ∀ i l, ls[i]? = some l → ∃ s, loadA Tryz.prog h 22 b (o + i * 1) = some s ∧ Ints h N s l := by
  rcases r with ⟨_, rfl⟩ | ⟨b, o, cp, rfl, h1, h2, h3⟩
  · exact absurd hl (Nat.lt_irrefl _)
  · exact ⟨b, o, cp, rfl, h1, fun i x hx => by rw [Nat.mul_one]; exact h3 i x hx⟩
section
variable {P : Program} {call : CallA} {n : Nat} {F : Fm} {K : Fm → H → Prop} {ops : Array Oper}
variable {ty : TypeId} {pos : String} {af : Array Edge} {chk : List Nat} {d N : Nat} {v : AV} {t e : TypeId} {x y : Operand} {k : IntKind}
theorem op_len_ints {l : List Int} (hx : ev F x = some v) (hi : Ints h N v l) (hu : P.underlying t = some (.slice e)) (hk : K (F.put d (.int .i64 (.ofNat l.length))) h) :
    OpP P ops ⟨some d, .call ⟨.builtin .len, #[x], #[t]⟩, ty, pos, af, none⟩ F h K := by
  rcases hi with ⟨rfl, rfl⟩ | ⟨b, o, cp, rfl, _⟩
  · exact op_len_nil hx hu hk
  · exact op_len_slice hx hu hk
theorem op_len_rows {l : List (List Int)} (hx : ev F x = some v) (hi : Rows2 h N v l) (hu : P.underlying t = some (.slice e)) (hk : K (F.put d (.int .i64 (.ofNat l.length))) h) :
    OpP P ops ⟨some d, .call ⟨.builtin .len, #[x], #[t]⟩, ty, pos, af, none⟩ F h K := by
  rcases hi with ⟨rfl, rfl⟩ | ⟨b, o, cp, rfl, _⟩
  · exact op_len_nil hx hu hk
  · exact op_len_slice hx hu hk
end
def Apart (ls : List (List Int)) : Prop := (∀ (i : Nat) (l : List Int), ls[i]? = some l → l.length = 2) ∧ ∀ (i k : Nat) (l m : List Int), k < i → ls[k]? = some l → ls[i]? = some m → l.getD 0 0 ≠ m.getD 0 0
theorem getD_some {l : List Int} {i : Nat} (h : i < l.length) : l[i]? = some (l.getD i 0) := by
  simp [List.getD_eq_getElem?_getD, h]
theorem apart_spec {d : Nat} (hS : SOk S) {N : Nat} {v0 : AV} {ls : List (List Int)} (hL : ls.length < L) (hn : ls.length < 9223372036854775808) (hR : Rows2 h N v0 ls) :
    CS Tryz.prog X S L (d + 1) 11 [v0] h (fun v h' => ∃ r, v = .bool r ∧ h = h' ∧ (r = true → Apart ls)) := by
  refine CS.of (rs := [.tmp 2]) (hS.none _ (by decide) (by decide)) Tryz.func11 rfl rfl ?_
  refine Gives.seq ?_
  refine Gives.region [.p 0] (by kernel_rfl) ?_
  refine RP.p rfl (op_assign rfl ?_)
  refine RP.nil ?_
  refine Gives.seq ?_
  refine Gives.seq ?_
  refine Gives.region [.p 0] (by kernel_rfl) ?_
  refine RP.p rfl (op_assign (show ev _ _ = some (.int .i64 (.ofNat 0)) from rfl) ?_)
  refine RP.nil ?_
  refine Gives.block ?_
  refine Gives.loop (I := fun k F h' => ∃ i, k + i = ls.length ∧ F.at 0 = some v0 ∧ F.at 3 = some (.int .i64 (.ofNat i)) ∧ (∀ (j : Nat) (l : List Int), j < i → ls[j]? = some l → l.length = 2) ∧ (∀ (j k : Nat) (l m : List Int), k < j → j < i → ls[k]? = some l → ls[j]? = some m → l.getD 0 0 ≠ m.getD 0 0) ∧ h = h')
    (fun k F h' hI => ?_) (k := ls.length) (by omega) ⟨0, by omega, (by repeat (first | with_reducible (first | exact qS | assumption) | refine qN rfl ?_ | exact qO rfl)), (by repeat (first | with_reducible (first | exact qS | assumption) | refine qN rfl ?_ | exact qO rfl)), fun j l hj => absurd hj (Nat.not_lt_zero _), fun j k l m _ hj => absurd hj (Nat.not_lt_zero _), rfl⟩
  obtain ⟨i, hk, e0, e3, hp1, hp2, rfl⟩ := hI
  refine Gives.seq ?_
  refine Gives.seq ?_
  refine Gives.region [.p 0, .p 1, .p 2, .p 3] (by kernel_rfl) ?_
  refine RP.p rfl (op_move (qT (by repeat (first | with_reducible (first | exact qS | assumption) | refine qN rfl ?_ | exact qO rfl))) ?_)
  refine RP.p rfl (op_move (qT (by repeat (first | with_reducible (first | exact qS | assumption) | refine qN rfl ?_ | exact qO rfl))) ?_)
  refine RP.p rfl (op_len_rows (qT (by repeat (first | with_reducible (first | exact qS | assumption) | refine qN rfl ?_ | exact qO rfl))) hR Tryz.underlying23 ?_)
  refine RP.p rfl (op_bin (qT (by repeat (first | with_reducible (first | exact qS | assumption) | refine qN rfl ?_ | exact qO rfl))) (qT (by repeat (first | with_reducible (first | exact qS | assumption) | refine qN rfl ?_ | exact qO rfl))) bin_lssN ?_)
  refine RP.nil ?_
  refine Gives.cond (qT (by repeat (first | with_reducible (first | exact qS | assumption) | refine qN rfl ?_ | exact qO rfl))) (fun hc => ?_) (fun hc => ?_)
  · have hi : i < ls.length := of_decide_eq_true hc
    clear hc
    obtain ⟨k, rfl⟩ : ∃ m, k = m + 1 := ⟨k - 1, by omega⟩
    obtain ⟨b, o, cp, rfl, hcp, hld⟩ := hR.slice (by omega)
    obtain ⟨s, hs1, hs2⟩ := hld i _ (List.getElem?_eq_getElem hi)
    refine Gives.skip ?_
    refine Gives.seq ?_
    refine Gives.block ?_
    refine Gives.seq ?_
    refine Gives.seq ?_
    refine Gives.region [.p 0, .p 1, .p 2, .r 3, .p 4, .p 5] (by kernel_rfl) ?_
    refine RP.p rfl (op_move (qT (by repeat (first | with_reducible (first | exact qS | assumption) | refine qN rfl ?_ | exact qO rfl))) ?_)
    refine RP.p rfl (op_move (qT (by repeat (first | with_reducible (first | exact qS | assumption) | refine qN rfl ?_ | exact qO rfl))) ?_)
    refine RP.p rfl (op_indexAddr (qT (by repeat (first | with_reducible (first | exact qS | assumption) | refine qN rfl ?_ | exact qO rfl))) (qT (by repeat (first | with_reducible (first | exact qS | assumption) | refine qN rfl ?_ | exact qO rfl))) Tryz.underlying23 (by kernel_rfl) hi hcp ?_)
    refine RP.r rfl (op_load (qT (by repeat (first | with_reducible (first | exact qS | assumption) | refine qN rfl ?_ | exact qO rfl))) hs1 ?_)
    refine RP.p rfl (op_len_ints (qT (by repeat (first | with_reducible (first | exact qS | assumption) | refine qN rfl ?_ | exact qO rfl))) hs2 Tryz.underlying22 ?_)
    refine RP.p rfl (op_bin (qT (by repeat (first | with_reducible (first | exact qS | assumption) | refine qN rfl ?_ | exact qO rfl))) (show ev _ _ = some (.int .i64 (.ofNat 2)) from rfl) bin_neqN ?_)
    refine RP.nil ?_
    refine Gives.cond (qT (by repeat (first | with_reducible (first | exact qS | assumption) | refine qN rfl ?_ | exact qO rfl))) (fun hc => ?_) (fun hc => ?_)
    · refine Gives.seq ?_
      refine Gives.region [.p 0] (by kernel_rfl) ?_
      refine RP.p rfl (op_assign rfl ?_)
      refine RP.nil ?_
      exact Gives.ret2 (RS.one (v := .bool false) (by repeat (first | with_reducible (first | exact qS | assumption) | refine qN rfl ?_ | exact qO rfl)) ⟨false, rfl, rfl, fun hq => by cases hq⟩)
    have h2 : ls[i].length = 2 := by have := of_decide_eq_false hc; omega
    clear hc
    refine Gives.skip ?_
    refine Gives.seq ?_
    refine Gives.region [.p 0] (by kernel_rfl) ?_
    refine RP.p rfl (op_assign (show ev _ _ = some (.int .i64 (.ofNat 0)) from rfl) ?_)
    refine RP.nil ?_
    refine Gives.block ?_
    refine Gives.loop (I := fun k F h' => ∃ j, k + j = i ∧ F.at 0 = some (.slice b o ls.length cp 1 true) ∧ F.at 3 = some (.int .i64 (.ofNat i)) ∧ F.at 4 = some (.int .i64 (.ofNat j)) ∧ (∀ (t : Nat) (l : List Int), t < j → ls[t]? = some l → l.getD 0 0 ≠ ls[i].getD 0 0) ∧ h = h')
      (fun k2 F h' hI => ?_) (k := i) (by omega) ⟨0, by omega, (by repeat (first | with_reducible (first | exact qS | assumption) | refine qN rfl ?_ | exact qO rfl)), (by repeat (first | with_reducible (first | exact qS | assumption) | refine qN rfl ?_ | exact qO rfl)), (by repeat (first | with_reducible (first | exact qS | assumption) | refine qN rfl ?_ | exact qO rfl)), fun t l ht => absurd ht (Nat.not_lt_zero _), rfl⟩
    clear e0 e3
    obtain ⟨j, hk', e0, e3, e4, hq, rfl⟩ := hI
    refine Gives.seq ?_
    refine Gives.seq ?_
    refine Gives.region [.p 0, .p 1, .p 2] (by kernel_rfl) ?_
    refine RP.p rfl (op_move (qT (by repeat (first | with_reducible (first | exact qS | assumption) | refine qN rfl ?_ | exact qO rfl))) ?_)
    refine RP.p rfl (op_move (qT (by repeat (first | with_reducible (first | exact qS | assumption) | refine qN rfl ?_ | exact qO rfl))) ?_)
    refine RP.p rfl (op_bin (qT (by repeat (first | with_reducible (first | exact qS | assumption) | refine qN rfl ?_ | exact qO rfl))) (qT (by repeat (first | with_reducible (first | exact qS | assumption) | refine qN rfl ?_ | exact qO rfl))) bin_lssN ?_)
    refine RP.nil ?_
    refine Gives.cond (qT (by repeat (first | with_reducible (first | exact qS | assumption) | refine qN rfl ?_ | exact qO rfl))) (fun hc => ?_) (fun hc => ?_)
    · have hj : j < i := of_decide_eq_true hc
      clear hc
      have hjl : j < ls.length := by omega
      obtain ⟨k2, rfl⟩ : ∃ m, k2 = m + 1 := ⟨k2 - 1, by omega⟩
      obtain ⟨s', hs1', hs2'⟩ := hld j _ (List.getElem?_eq_getElem hjl)
      have h2' : ls[j].length = 2 := hp1 j _ hj (List.getElem?_eq_getElem hjl)
      obtain ⟨c1, o1, p1, rfl, q1, z1⟩ := hs2'.slice (by omega)
      obtain ⟨c2, o2, p2, rfl, q2, z2⟩ := hs2.slice (by omega)
      refine Gives.skip ?_
      refine Gives.seq ?_
      refine Gives.block ?_
      refine Gives.seq ?_
      refine Gives.region [.p 0, .p 1, .p 2, .r 3, .p 4, .r 5, .p 6, .p 7, .p 8, .r 9, .p 10, .r 11, .p 12] (by kernel_rfl) ?_
      refine RP.p rfl (op_move (qT (by repeat (first | with_reducible (first | exact qS | assumption) | refine qN rfl ?_ | exact qO rfl))) ?_)
      refine RP.p rfl (op_move (qT (by repeat (first | with_reducible (first | exact qS | assumption) | refine qN rfl ?_ | exact qO rfl))) ?_)
      refine RP.p rfl (op_indexAddr (qT (by repeat (first | with_reducible (first | exact qS | assumption) | refine qN rfl ?_ | exact qO rfl))) (qT (by repeat (first | with_reducible (first | exact qS | assumption) | refine qN rfl ?_ | exact qO rfl))) Tryz.underlying23 (by kernel_rfl) hjl hcp ?_)
      refine RP.r rfl (op_load (qT (by repeat (first | with_reducible (first | exact qS | assumption) | refine qN rfl ?_ | exact qO rfl))) hs1' ?_)
      refine RP.p rfl (op_indexAddr (qT (by repeat (first | with_reducible (first | exact qS | assumption) | refine qN rfl ?_ | exact qO rfl))) (show ev _ _ = some (.int .i64 (.ofNat 0)) from rfl) Tryz.underlying22 (by kernel_rfl) (by omega) q1 ?_)
      refine RP.r rfl (op_load (qT (by repeat (first | with_reducible (first | exact qS | assumption) | refine qN rfl ?_ | exact qO rfl))) (z1 0 _ (getD_some (by omega))) ?_)
      refine RP.p rfl (op_move (qT (by repeat (first | with_reducible (first | exact qS | assumption) | refine qN rfl ?_ | exact qO rfl))) ?_)
      refine RP.p rfl (op_move (qT (by repeat (first | with_reducible (first | exact qS | assumption) | refine qN rfl ?_ | exact qO rfl))) ?_)
      refine RP.p rfl (op_indexAddr (qT (by repeat (first | with_reducible (first | exact qS | assumption) | refine qN rfl ?_ | exact qO rfl))) (qT (by repeat (first | with_reducible (first | exact qS | assumption) | refine qN rfl ?_ | exact qO rfl))) Tryz.underlying23 (by kernel_rfl) hi hcp ?_)
      refine RP.r rfl (op_load (qT (by repeat (first | with_reducible (first | exact qS | assumption) | refine qN rfl ?_ | exact qO rfl))) hs1 ?_)
      refine RP.p rfl (op_indexAddr (qT (by repeat (first | with_reducible (first | exact qS | assumption) | refine qN rfl ?_ | exact qO rfl))) (show ev _ _ = some (.int .i64 (.ofNat 0)) from rfl) Tryz.underlying22 (by kernel_rfl) (by omega) q2 ?_)
      refine RP.r rfl (op_load (qT (by repeat (first | with_reducible (first | exact qS | assumption) | refine qN rfl ?_ | exact qO rfl))) (z2 0 _ (getD_some (by omega))) ?_)
      refine RP.p rfl (op_bin (qT (by repeat (first | with_reducible (first | exact qS | assumption) | refine qN rfl ?_ | exact qO rfl))) (qT (by repeat (first | with_reducible (first | exact qS | assumption) | refine qN rfl ?_ | exact qO rfl))) bin_eql ?_)
      refine RP.nil ?_
      refine Gives.cond (qT (by repeat (first | with_reducible (first | exact qS | assumption) | refine qN rfl ?_ | exact qO rfl))) (fun hc => ?_) (fun hc => ?_)
      · refine Gives.seq ?_
        refine Gives.region [.p 0] (by kernel_rfl) ?_
        refine RP.p rfl (op_assign rfl ?_)
        refine RP.nil ?_
        exact Gives.ret4 (RS.one (v := .bool false) (by repeat (first | with_reducible (first | exact qS | assumption) | refine qN rfl ?_ | exact qO rfl)) ⟨false, rfl, rfl, fun hq => by cases hq⟩)
      have hne : ls[j].getD 0 0 ≠ ls[i].getD 0 0 := of_decide_eq_false hc
      clear hc
      refine Gives.skip ?_
      refine Gives.region [.p 0, .p 1, .p 2] (by kernel_rfl) ?_
      refine RP.p rfl (op_move (qT (by repeat (first | with_reducible (first | exact qS | assumption) | refine qN rfl ?_ | exact qO rfl))) ?_)
      refine RP.p rfl (op_bin (qT (by repeat (first | with_reducible (first | exact qS | assumption) | refine qN rfl ?_ | exact qO rfl))) (show ev _ _ = some (.int .i64 (.ofNat 1)) from rfl) (bin_add (by have e1 : topK .i64 = 9223372036854775808 := rfl; have e2 : topK .u32 = 4294967296 := rfl; have e3 : topK .u64 = 18446744073709551616 := rfl; have e4 : topK .u8 = 256 := rfl; have e5 : topK .u16 = 65536 := rfl; omega)) ?_)
      refine RP.p rfl (op_assign (qT (by repeat (first | with_reducible (first | exact qS | assumption) | refine qN rfl ?_ | exact qO rfl))) ?_)
      refine RP.nil ?_
      refine ⟨k2, by omega, j + 1, by omega, (by repeat (first | with_reducible (first | exact qS | assumption) | refine qN rfl ?_ | exact qO rfl)), (by repeat (first | with_reducible (first | exact qS | assumption) | refine qN rfl ?_ | exact qO rfl)), (by repeat (first | with_reducible (first | exact qS | assumption) | refine qN rfl ?_ | exact qO rfl)), fun t l ht hl => ?_, rfl⟩
      by_cases ht' : t = j
      · subst ht'; rw [List.getElem?_eq_getElem hjl] at hl; cases hl; exact hne
      · exact hq t l (by omega) hl
    · have hj : ¬ j < i := of_decide_eq_false hc
      clear hc
      obtain rfl : j = i := by omega
      refine Gives.exit_same ?_
      refine Gives.region [.p 0, .p 1, .p 2] (by kernel_rfl) ?_
      refine RP.p rfl (op_move (qT (by repeat (first | with_reducible (first | exact qS | assumption) | refine qN rfl ?_ | exact qO rfl))) ?_)
      refine RP.p rfl (op_bin (qT (by repeat (first | with_reducible (first | exact qS | assumption) | refine qN rfl ?_ | exact qO rfl))) (show ev _ _ = some (.int .i64 (.ofNat 1)) from rfl) (bin_add (by have e1 : topK .i64 = 9223372036854775808 := rfl; have e2 : topK .u32 = 4294967296 := rfl; have e3 : topK .u64 = 18446744073709551616 := rfl; have e4 : topK .u8 = 256 := rfl; have e5 : topK .u16 = 65536 := rfl; omega)) ?_)
      refine RP.p rfl (op_assign (qT (by repeat (first | with_reducible (first | exact qS | assumption) | refine qN rfl ?_ | exact qO rfl))) ?_)
      refine RP.nil ?_
      refine ⟨k, by omega, j + 1, by omega, (by repeat (first | with_reducible (first | exact qS | assumption) | refine qN rfl ?_ | exact qO rfl)), (by repeat (first | with_reducible (first | exact qS | assumption) | refine qN rfl ?_ | exact qO rfl)), fun t l ht hl => ?_, fun t u l m hu ht hl hm => ?_, rfl⟩
      · by_cases ht' : t = j
        · subst ht'; rw [List.getElem?_eq_getElem hi] at hl; cases hl; exact h2
        · exact hp1 t l (by omega) hl
      · by_cases ht' : t = j
        · subst ht'; rw [List.getElem?_eq_getElem hi] at hm; cases hm; exact hq u l hu hl
        · exact hp2 t u l m hu (by omega) hl hm
  · have hi : ¬ i < ls.length := of_decide_eq_false hc
    clear hc
    obtain rfl : i = ls.length := by omega
    refine Gives.exit_same ?_
    refine Gives.seq ?_
    refine Gives.region [.p 0] (by kernel_rfl) ?_
    refine RP.p rfl (op_assign rfl ?_)
    refine RP.nil ?_
    exact Gives.ret0 (RS.one (v := .bool true) (by repeat (first | with_reducible (first | exact qS | assumption) | refine qN rfl ?_ | exact qO rfl)) ⟨true, rfl, rfl, fun _ => ⟨fun i l hl => hp1 i l (List.getElem?_eq_some_iff.1 hl).1 hl, fun i k l m hki hl hm => hp2 i k l m hki (List.getElem?_eq_some_iff.1 hm).1 hl hm⟩⟩)
end Go.Abs
