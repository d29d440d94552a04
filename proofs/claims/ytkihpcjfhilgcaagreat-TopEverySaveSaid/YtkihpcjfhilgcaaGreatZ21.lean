/- The newest copy. No condition. -/
import Derived.Test.YtkihpcjfhilgcaaGreatZ20
namespace Go.Abs
open Go.Proofs
variable {X : Ext0} {S : Sums} {L : Nat} {h : H}
theorem Own.fr {h h' : H} {N : Nat} {v : AV} {l : List Nat} (r : Own h N v l) (w : WF h) {B : Nat → Prop} (f : Fr B h h') (hB : ∀ b, B b → b < N) : Own h' N v l := by
  rcases r with r | ⟨b, cp, ex, rfl, h1, h2, h3⟩
  · exact .inl r
  · exact .inr ⟨b, cp, ex, rfl, h1, h2, h3.fr w f fun hb => by have := hB b hb; omega⟩
theorem Own.le {N M : Nat} {v : AV} {l : List Nat} (r : Own h N v l) (hm : M ≤ N) : Own h M v l := by
  rcases r with r | ⟨b, cp, ex, rfl, h1, h2, h3⟩
  · exact .inl r
  · exact .inr ⟨b, cp, ex, rfl, h1, by omega, h3⟩
theorem Own.img {N : Nat} {v : AV} {l : List Nat} (r : Own h N v l) : Img h v l := by
  rcases r with r | r
  · exact .inl r
  · exact r.img
theorem VM.lts {bv bm bw n start half : Nat} {D : Nat → Nat} {Z : Nat → Prop} (hM : VM h bv bm bw n D Z start half) : bv < h.next ∧ bm < h.next ∧ bw < h.next := by
  obtain ⟨_, _, q1, _⟩ := hM.m.m
  obtain ⟨_, q2, _⟩ := hM.m.w
  obtain ⟨_, q3, _⟩ := hM.v.v
  exact ⟨hM.m.wf.lt q3, hM.m.wf.lt q1, hM.m.wf.lt q2⟩
theorem newest_spec {d : Nat} (hS : SOk S) (hL : 1000000 ≤ L) {bv bm bw n start half : Nat} {D : Nat → Nat} {Z : Nat → Prop} (hM : VM h bv bm bw n D Z start half) :
    CS Tryz.prog X S L (d + 7) 32 [.ptr bv 0] h (fun v h' => ∃ s, v = .tup [.int .i64 (.ofNat (newS D start half).1), .int .i64 (.ofNat (newS D start half).2.1), s] ∧ Own h' h.next s (newS D start half).2.2 ∧ VM h' bv bm bw n D Z start half ∧ Fr (two bm bw) h h') := by
  obtain ⟨l1, l2, l3⟩ := hM.lts
  refine CS.of (rs := [.tmp 2, .tmp 3, .tmp 4]) (hS.none _ (by decide) (by decide)) Tryz.func32 rfl rfl ?_
  refine Gives.seq ?_
  refine Gives.region [.p 0, .p 1, .p 2] (by kernel_rfl) ?_
  refine RP.p rfl (op_assign (show ev _ _ = some (.int .i64 (.ofNat 0)) from rfl) ?_)
  refine RP.p rfl (op_assign (show ev _ _ = some (.int .i64 (.ofNat 0)) from rfl) ?_)
  refine RP.p rfl (op_assign rfl ?_)
  refine RP.nil ?_
  refine Gives.seq ?_
  refine Gives.region [.p 0, .e 1 [], .p 2, .p 3, .p 4, .p 5, .p 6] (by kernel_rfl) ?_
  refine RP.p rfl (op_move (qT (by repeat (first | with_reducible (first | exact qS | assumption) | refine qN rfl ?_ | exact qO rfl))) ?_)
  refine RP.e rfl (op_calls (evs_cons (qT (by repeat (first | with_reducible (first | exact qS | assumption) | refine qN rfl ?_ | exact qO rfl))) (evs_cons (show ev _ _ = some (.int .i64 (.ofNat 0)) from rfl) evs_nil)) (by kernel_rfl) (read_spec hS hL hM 0 (by decide)) ?_)
  rintro v h1 ⟨s1, rfl, ho1, hM1, hF1⟩
  rw [show start + 0 * half = start by omega] at ho1 ⊢
  refine RP.p rfl (op_move (qT (by repeat (first | with_reducible (first | exact qS | assumption) | refine qN rfl ?_ | exact qO rfl))) ?_)
  refine RP.p rfl (op_extract (qT (by repeat (first | with_reducible (first | exact qS | assumption) | refine qN rfl ?_ | exact qO rfl))) rfl ?_)
  refine RP.p rfl (op_extract (qT (by repeat (first | with_reducible (first | exact qS | assumption) | refine qN rfl ?_ | exact qO rfl))) rfl ?_)
  refine RP.p rfl (op_assign (qT (by repeat (first | with_reducible (first | exact qS | assumption) | refine qN rfl ?_ | exact qO rfl))) ?_)
  refine RP.p rfl (op_assign (qT (by repeat (first | with_reducible (first | exact qS | assumption) | refine qN rfl ?_ | exact qO rfl))) ?_)
  refine RP.nil ?_
  refine Gives.seq ?_
  refine Gives.region [.p 0, .e 1 [], .p 2, .p 3, .p 4, .p 5, .p 6] (by kernel_rfl) ?_
  refine RP.p rfl (op_move (qT (by repeat (first | with_reducible (first | exact qS | assumption) | refine qN rfl ?_ | exact qO rfl))) ?_)
  refine RP.e rfl (op_calls (evs_cons (qT (by repeat (first | with_reducible (first | exact qS | assumption) | refine qN rfl ?_ | exact qO rfl))) (evs_cons (show ev _ _ = some (.int .i64 (.ofNat 1)) from rfl) evs_nil)) (by kernel_rfl) (read_spec hS hL hM1 1 (by decide)) ?_)
  rintro v h2 ⟨s2, rfl, ho2, hM2, hF2⟩
  rw [show start + 1 * half = start + half by omega] at ho2 ⊢
  have ho1 := ho1.fr hM1.m.wf hF2 fun b hb => by rcases hb with rfl | rfl <;> assumption
  have ho2 := ho2.le hF1.next
  refine RP.p rfl (op_move (qT (by repeat (first | with_reducible (first | exact qS | assumption) | refine qN rfl ?_ | exact qO rfl))) ?_)
  refine RP.p rfl (op_extract (qT (by repeat (first | with_reducible (first | exact qS | assumption) | refine qN rfl ?_ | exact qO rfl))) rfl ?_)
  refine RP.p rfl (op_extract (qT (by repeat (first | with_reducible (first | exact qS | assumption) | refine qN rfl ?_ | exact qO rfl))) rfl ?_)
  refine RP.p rfl (op_assign (qT (by repeat (first | with_reducible (first | exact qS | assumption) | refine qN rfl ?_ | exact qO rfl))) ?_)
  refine RP.p rfl (op_assign (qT (by repeat (first | with_reducible (first | exact qS | assumption) | refine qN rfl ?_ | exact qO rfl))) ?_)
  refine RP.nil ?_
  refine Gives.seq ?_
  refine Gives.seq ?_
  refine Gives.region [.p 0, .p 1, .p 2] (by kernel_rfl) ?_
  refine RP.p rfl (op_move (qT (by repeat (first | with_reducible (first | exact qS | assumption) | refine qN rfl ?_ | exact qO rfl))) ?_)
  refine RP.p rfl (op_move (qT (by repeat (first | with_reducible (first | exact qS | assumption) | refine qN rfl ?_ | exact qO rfl))) ?_)
  refine RP.p rfl (op_bin (qT (by repeat (first | with_reducible (first | exact qS | assumption) | refine qN rfl ?_ | exact qO rfl))) (qT (by repeat (first | with_reducible (first | exact qS | assumption) | refine qN rfl ?_ | exact qO rfl))) bin_gtrN ?_)
  refine RP.nil ?_
  refine Gives.cond (qT (by repeat (first | with_reducible (first | exact qS | assumption) | refine qN rfl ?_ | exact qO rfl))) (fun hb => ?_) (fun hb => ?_)
  · have hb := of_decide_eq_true hb
    have e : newS D start half = (1, (rdS D (start + half) (4 * (half - 3))).1, (rdS D (start + half) (4 * (half - 3))).2) := by unfold newS; simp only []; rw [if_pos hb]
    rw [e]
    refine Gives.seq ?_
    refine Gives.region [.p 0, .p 1, .p 2, .p 3, .p 4] (by kernel_rfl) ?_
    refine RP.p rfl (op_move (qT (by repeat (first | with_reducible (first | exact qS | assumption) | refine qN rfl ?_ | exact qO rfl))) ?_)
    refine RP.p rfl (op_move (qT (by repeat (first | with_reducible (first | exact qS | assumption) | refine qN rfl ?_ | exact qO rfl))) ?_)
    refine RP.p rfl (op_assign (show ev _ _ = some (.int .i64 (.ofNat 1)) from rfl) ?_)
    refine RP.p rfl (op_assign (qT (by repeat (first | with_reducible (first | exact qS | assumption) | refine qN rfl ?_ | exact qO rfl))) ?_)
    refine RP.p rfl (op_assign (qT (by repeat (first | with_reducible (first | exact qS | assumption) | refine qN rfl ?_ | exact qO rfl))) ?_)
    refine RP.nil ?_
    exact Gives.ret0 (RS.three (by repeat (first | with_reducible (first | exact qS | assumption) | refine qN rfl ?_ | exact qO rfl)) (by repeat (first | with_reducible (first | exact qS | assumption) | refine qN rfl ?_ | exact qO rfl)) (by repeat (first | with_reducible (first | exact qS | assumption) | refine qN rfl ?_ | exact qO rfl)) ⟨s2, rfl, ho2, hM2, hF1.trans hF2⟩)
  · have hb := of_decide_eq_false hb
    have e : newS D start half = (0, (rdS D start (4 * (half - 3))).1, (rdS D start (4 * (half - 3))).2) := by unfold newS; simp only []; rw [if_neg hb]
    rw [e]
    refine Gives.skip ?_
    refine Gives.seq ?_
    refine Gives.region [.p 0, .p 1, .p 2, .p 3, .p 4] (by kernel_rfl) ?_
    refine RP.p rfl (op_move (qT (by repeat (first | with_reducible (first | exact qS | assumption) | refine qN rfl ?_ | exact qO rfl))) ?_)
    refine RP.p rfl (op_move (qT (by repeat (first | with_reducible (first | exact qS | assumption) | refine qN rfl ?_ | exact qO rfl))) ?_)
    refine RP.p rfl (op_assign (show ev _ _ = some (.int .i64 (.ofNat 0)) from rfl) ?_)
    refine RP.p rfl (op_assign (qT (by repeat (first | with_reducible (first | exact qS | assumption) | refine qN rfl ?_ | exact qO rfl))) ?_)
    refine RP.p rfl (op_assign (qT (by repeat (first | with_reducible (first | exact qS | assumption) | refine qN rfl ?_ | exact qO rfl))) ?_)
    refine RP.nil ?_
    exact Gives.ret0 (RS.three (by repeat (first | with_reducible (first | exact qS | assumption) | refine qN rfl ?_ | exact qO rfl)) (by repeat (first | with_reducible (first | exact qS | assumption) | refine qN rfl ?_ | exact qO rfl)) (by repeat (first | with_reducible (first | exact qS | assumption) | refine qN rfl ?_ | exact qO rfl)) ⟨s1, rfl, ho1, hM2, hF1.trans hF2⟩)
end Go.Abs

/- The vault's small questions: generation, older copy, load. No condition. -/
namespace Go.Abs
open Go.Proofs
variable {X : Ext0} {S : Sums} {L : Nat} {h : H}
theorem gen_spec {d : Nat} (hS : SOk S) (hL : 1000000 ≤ L) {bv bm bw n start half : Nat} {D : Nat → Nat} {Z : Nat → Prop} (hM : VM h bv bm bw n D Z start half) :
    CS Tryz.prog X S L (d + 8) 33 [.ptr bv 0] h (fun v h' => v = .int .i64 (.ofNat (newS D start half).2.1) ∧ VM h' bv bm bw n D Z start half ∧ Fr (two bm bw) h h') := by
  refine CS.of (rs := [.tmp 2]) (hS.none _ (by decide) (by decide)) Tryz.func33 rfl rfl ?_
  refine Gives.seq ?_
  refine Gives.region [.p 0] (by kernel_rfl) ?_
  refine RP.p rfl (op_assign (show ev _ _ = some (.int .i64 (.ofNat 0)) from rfl) ?_)
  refine RP.nil ?_
  refine Gives.seq ?_
  refine Gives.seq ?_
  refine Gives.region [.p 0, .e 1 [], .p 2] (by kernel_rfl) ?_
  refine RP.p rfl (op_move (qT (by repeat (first | with_reducible (first | exact qS | assumption) | refine qN rfl ?_ | exact qO rfl))) ?_)
  refine RP.e rfl (op_calls (evs_cons (qT (by repeat (first | with_reducible (first | exact qS | assumption) | refine qN rfl ?_ | exact qO rfl))) evs_nil) (by kernel_rfl) (usable_spec hS hM.v) ?_)
  rintro v h' ⟨rfl, rfl⟩
  refine RP.p rfl (op_notT (qT (by repeat (first | with_reducible (first | exact qS | assumption) | refine qN rfl ?_ | exact qO rfl))) ?_)
  refine RP.nil ?_
  refine Gives.else_ (qT (by repeat (first | with_reducible (first | exact qS | assumption) | refine qN rfl ?_ | exact qO rfl))) ?_
  refine Gives.skip ?_
  refine Gives.seq ?_
  refine Gives.region [.p 0, .e 1 [], .p 2, .p 3, .p 4, .p 5, .p 6, .p 7, .p 8] (by kernel_rfl) ?_
  refine RP.p rfl (op_move (qT (by repeat (first | with_reducible (first | exact qS | assumption) | refine qN rfl ?_ | exact qO rfl))) ?_)
  refine RP.e rfl (op_calls (evs_cons (qT (by repeat (first | with_reducible (first | exact qS | assumption) | refine qN rfl ?_ | exact qO rfl))) evs_nil) (by kernel_rfl) (newest_spec hS hL hM) ?_)
  rintro v h1 ⟨s, rfl, _, hM1, hF1⟩
  refine RP.p rfl (op_move (qT (by repeat (first | with_reducible (first | exact qS | assumption) | refine qN rfl ?_ | exact qO rfl))) ?_)
  refine RP.p rfl (op_extract (qT (by repeat (first | with_reducible (first | exact qS | assumption) | refine qN rfl ?_ | exact qO rfl))) rfl ?_)
  refine RP.p rfl (op_extract (qT (by repeat (first | with_reducible (first | exact qS | assumption) | refine qN rfl ?_ | exact qO rfl))) rfl ?_)
  refine RP.p rfl (op_extract (qT (by repeat (first | with_reducible (first | exact qS | assumption) | refine qN rfl ?_ | exact qO rfl))) rfl ?_)
  refine RP.p rfl (op_assign (qT (by repeat (first | with_reducible (first | exact qS | assumption) | refine qN rfl ?_ | exact qO rfl))) ?_)
  refine RP.p rfl (op_assign (qT (by repeat (first | with_reducible (first | exact qS | assumption) | refine qN rfl ?_ | exact qO rfl))) ?_)
  refine RP.p rfl (op_assign (qT (by repeat (first | with_reducible (first | exact qS | assumption) | refine qN rfl ?_ | exact qO rfl))) ?_)
  refine RP.nil ?_
  refine Gives.seq ?_
  refine Gives.region [.p 0, .p 1] (by kernel_rfl) ?_
  refine RP.p rfl (op_move (qT (by repeat (first | with_reducible (first | exact qS | assumption) | refine qN rfl ?_ | exact qO rfl))) ?_)
  refine RP.p rfl (op_assign (qT (by repeat (first | with_reducible (first | exact qS | assumption) | refine qN rfl ?_ | exact qO rfl))) ?_)
  refine RP.nil ?_
  exact Gives.ret0 (RS.one (by repeat (first | with_reducible (first | exact qS | assumption) | refine qN rfl ?_ | exact qO rfl)) ⟨rfl, hM1, hF1⟩)
theorem load_spec {d : Nat} (hS : SOk S) (hL : 1000000 ≤ L) {bv bm bw n start half : Nat} {D : Nat → Nat} {Z : Nat → Prop} (hM : VM h bv bm bw n D Z start half) :
    CS Tryz.prog X S L (d + 8) 9 [.ptr bv 0] h (fun v h' => (∃ s l r, v = .tup [s, .int .i64 (.ofNat r)] ∧ Own h' h.next s l ∧ (match loadS D start half with
      | none => r = 8 ∧ l = []
      | some img => r = 0 ∧ l = img)) ∧ VM h' bv bm bw n D Z start half ∧ Fr (two bm bw) h h') := by
  refine CS.of (rs := [.tmp 2, .tmp 3]) (hS.none _ (by decide) (by decide)) Tryz.func9 rfl rfl ?_
  refine Gives.seq ?_
  refine Gives.region [.p 0, .p 1] (by kernel_rfl) ?_
  refine RP.p rfl (op_assign rfl ?_)
  refine RP.p rfl (op_assign (show ev _ _ = some (.int .i64 (.ofNat 0)) from rfl) ?_)
  refine RP.nil ?_
  refine Gives.seq ?_
  refine Gives.seq ?_
  refine Gives.region [.p 0, .e 1 [], .p 2] (by kernel_rfl) ?_
  refine RP.p rfl (op_move (qT (by repeat (first | with_reducible (first | exact qS | assumption) | refine qN rfl ?_ | exact qO rfl))) ?_)
  refine RP.e rfl (op_calls (evs_cons (qT (by repeat (first | with_reducible (first | exact qS | assumption) | refine qN rfl ?_ | exact qO rfl))) evs_nil) (by kernel_rfl) (usable_spec hS hM.v) ?_)
  rintro v h' ⟨rfl, rfl⟩
  refine RP.p rfl (op_notT (qT (by repeat (first | with_reducible (first | exact qS | assumption) | refine qN rfl ?_ | exact qO rfl))) ?_)
  refine RP.nil ?_
  refine Gives.else_ (qT (by repeat (first | with_reducible (first | exact qS | assumption) | refine qN rfl ?_ | exact qO rfl))) ?_
  refine Gives.skip ?_
  refine Gives.seq ?_
  refine Gives.region [.p 0, .e 1 [], .p 2, .p 3, .p 4, .p 5, .p 6, .p 7, .p 8] (by kernel_rfl) ?_
  refine RP.p rfl (op_move (qT (by repeat (first | with_reducible (first | exact qS | assumption) | refine qN rfl ?_ | exact qO rfl))) ?_)
  refine RP.e rfl (op_calls (evs_cons (qT (by repeat (first | with_reducible (first | exact qS | assumption) | refine qN rfl ?_ | exact qO rfl))) evs_nil) (by kernel_rfl) (newest_spec hS hL hM) ?_)
  rintro v h1 ⟨s, rfl, ho, hM1, hF1⟩
  refine RP.p rfl (op_move (qT (by repeat (first | with_reducible (first | exact qS | assumption) | refine qN rfl ?_ | exact qO rfl))) ?_)
  refine RP.p rfl (op_extract (qT (by repeat (first | with_reducible (first | exact qS | assumption) | refine qN rfl ?_ | exact qO rfl))) rfl ?_)
  refine RP.p rfl (op_extract (qT (by repeat (first | with_reducible (first | exact qS | assumption) | refine qN rfl ?_ | exact qO rfl))) rfl ?_)
  refine RP.p rfl (op_extract (qT (by repeat (first | with_reducible (first | exact qS | assumption) | refine qN rfl ?_ | exact qO rfl))) rfl ?_)
  refine RP.p rfl (op_assign (qT (by repeat (first | with_reducible (first | exact qS | assumption) | refine qN rfl ?_ | exact qO rfl))) ?_)
  refine RP.p rfl (op_assign (qT (by repeat (first | with_reducible (first | exact qS | assumption) | refine qN rfl ?_ | exact qO rfl))) ?_)
  refine RP.p rfl (op_assign (qT (by repeat (first | with_reducible (first | exact qS | assumption) | refine qN rfl ?_ | exact qO rfl))) ?_)
  refine RP.nil ?_
  refine Gives.seq ?_
  refine Gives.seq ?_
  refine Gives.region [.p 0, .p 1] (by kernel_rfl) ?_
  refine RP.p rfl (op_move (qT (by repeat (first | with_reducible (first | exact qS | assumption) | refine qN rfl ?_ | exact qO rfl))) ?_)
  refine RP.p rfl (op_bin (qT (by repeat (first | with_reducible (first | exact qS | assumption) | refine qN rfl ?_ | exact qO rfl))) (show ev _ _ = some (.int .i64 (.ofNat 0)) from rfl) bin_eqlN ?_)
  refine RP.nil ?_
  refine Gives.cond (qT (by repeat (first | with_reducible (first | exact qS | assumption) | refine qN rfl ?_ | exact qO rfl))) (fun hb => ?_) (fun hb => ?_)
  · have hb := of_decide_eq_true hb
    have e : loadS D start half = none := by unfold loadS; rw [if_pos hb]
    rw [e]
    refine Gives.seq ?_
    refine Gives.region [.p 0, .p 1] (by kernel_rfl) ?_
    refine RP.p rfl (op_assign rfl ?_)
    refine RP.p rfl (op_assign (show ev _ _ = some (.int .i64 (.ofNat 8)) from rfl) ?_)
    refine RP.nil ?_
    exact Gives.ret0 (RS.two (by repeat (first | with_reducible (first | exact qS | assumption) | refine qN rfl ?_ | exact qO rfl)) (by repeat (first | with_reducible (first | exact qS | assumption) | refine qN rfl ?_ | exact qO rfl)) ⟨⟨.snil, [], 8, rfl, .inl ⟨rfl, rfl⟩, rfl, rfl⟩, hM1, hF1⟩)
  · have hb := of_decide_eq_false hb
    have e : loadS D start half = some (newS D start half).2.2 := by unfold loadS; rw [if_neg hb]
    rw [e]
    refine Gives.skip ?_
    refine Gives.seq ?_
    refine Gives.region [.p 0, .p 1, .p 2] (by kernel_rfl) ?_
    refine RP.p rfl (op_move (qT (by repeat (first | with_reducible (first | exact qS | assumption) | refine qN rfl ?_ | exact qO rfl))) ?_)
    refine RP.p rfl (op_assign (qT (by repeat (first | with_reducible (first | exact qS | assumption) | refine qN rfl ?_ | exact qO rfl))) ?_)
    refine RP.p rfl (op_assign (show ev _ _ = some (.int .i64 (.ofNat 0)) from rfl) ?_)
    refine RP.nil ?_
    exact Gives.ret0 (RS.two (by repeat (first | with_reducible (first | exact qS | assumption) | refine qN rfl ?_ | exact qO rfl)) (by repeat (first | with_reducible (first | exact qS | assumption) | refine qN rfl ?_ | exact qO rfl)) ⟨⟨s, _, 0, rfl, ho, rfl, rfl⟩, hM1, hF1⟩)
theorem newS_le (D : Nat → Nat) (a half : Nat) : (newS D a half).1 ≤ 1 := by
  unfold newS; simp only []; split <;> simp
theorem older_spec {d : Nat} (hS : SOk S) (hL : 1000000 ≤ L) {bv bm bw n start half : Nat} {D : Nat → Nat} {Z : Nat → Prop} (hM : VM h bv bm bw n D Z start half) :
    CS Tryz.prog X S L (d + 8) 76 [.ptr bv 0] h (fun v h' => v = .int .i64 (.ofNat (oldS D start half)) ∧ VM h' bv bm bw n D Z start half ∧ Fr (two bm bw) h h') := by
  have hle := newS_le D start half
  refine CS.of (rs := [.tmp 2]) (hS.none _ (by decide) (by decide)) Tryz.func76 rfl rfl ?_
  refine Gives.seq ?_
  refine Gives.region [.p 0] (by kernel_rfl) ?_
  refine RP.p rfl (op_assign (show ev _ _ = some (.int .i64 (.ofNat 0)) from rfl) ?_)
  refine RP.nil ?_
  refine Gives.seq ?_
  refine Gives.region [.p 0, .e 1 [], .p 2, .p 3, .p 4, .p 5, .p 6, .p 7, .p 8] (by kernel_rfl) ?_
  refine RP.p rfl (op_move (qT (by repeat (first | with_reducible (first | exact qS | assumption) | refine qN rfl ?_ | exact qO rfl))) ?_)
  refine RP.e rfl (op_calls (evs_cons (qT (by repeat (first | with_reducible (first | exact qS | assumption) | refine qN rfl ?_ | exact qO rfl))) evs_nil) (by kernel_rfl) (newest_spec hS hL hM) ?_)
  rintro v h1 ⟨s, rfl, _, hM1, hF1⟩
  refine RP.p rfl (op_move (qT (by repeat (first | with_reducible (first | exact qS | assumption) | refine qN rfl ?_ | exact qO rfl))) ?_)
  refine RP.p rfl (op_extract (qT (by repeat (first | with_reducible (first | exact qS | assumption) | refine qN rfl ?_ | exact qO rfl))) rfl ?_)
  refine RP.p rfl (op_extract (qT (by repeat (first | with_reducible (first | exact qS | assumption) | refine qN rfl ?_ | exact qO rfl))) rfl ?_)
  refine RP.p rfl (op_extract (qT (by repeat (first | with_reducible (first | exact qS | assumption) | refine qN rfl ?_ | exact qO rfl))) rfl ?_)
  refine RP.p rfl (op_assign (qT (by repeat (first | with_reducible (first | exact qS | assumption) | refine qN rfl ?_ | exact qO rfl))) ?_)
  refine RP.p rfl (op_assign (qT (by repeat (first | with_reducible (first | exact qS | assumption) | refine qN rfl ?_ | exact qO rfl))) ?_)
  refine RP.p rfl (op_assign (qT (by repeat (first | with_reducible (first | exact qS | assumption) | refine qN rfl ?_ | exact qO rfl))) ?_)
  refine RP.nil ?_
  refine Gives.seq ?_
  refine Gives.seq ?_
  refine Gives.region [.p 0, .p 1] (by kernel_rfl) ?_
  refine RP.p rfl (op_move (qT (by repeat (first | with_reducible (first | exact qS | assumption) | refine qN rfl ?_ | exact qO rfl))) ?_)
  refine RP.p rfl (op_bin (qT (by repeat (first | with_reducible (first | exact qS | assumption) | refine qN rfl ?_ | exact qO rfl))) (show ev _ _ = some (.int .i64 (.ofNat 0)) from rfl) bin_eqlN ?_)
  refine RP.nil ?_
  refine Gives.cond (qT (by repeat (first | with_reducible (first | exact qS | assumption) | refine qN rfl ?_ | exact qO rfl))) (fun hb => ?_) (fun hb => ?_)
  · have hb := of_decide_eq_true hb
    refine Gives.seq ?_
    refine Gives.region [.p 0] (by kernel_rfl) ?_
    refine RP.p rfl (op_assign (show ev _ _ = some (.int .i64 (.ofNat 0)) from rfl) ?_)
    refine RP.nil ?_
    exact Gives.ret0 (RS.one (by repeat (first | with_reducible (first | exact qS | assumption) | refine qN rfl ?_ | exact qO rfl)) ⟨by unfold oldS; rw [if_pos hb], hM1, hF1⟩)
  · have hb := of_decide_eq_false hb
    refine Gives.skip ?_
    refine Gives.seq ?_
    refine Gives.region [.p 0, .p 1, .p 2] (by kernel_rfl) ?_
    refine RP.p rfl (op_move (qT (by repeat (first | with_reducible (first | exact qS | assumption) | refine qN rfl ?_ | exact qO rfl))) ?_)
    refine RP.p rfl (op_bin (show ev _ _ = some (.int .i64 (.ofNat 1)) from rfl) (qT (by repeat (first | with_reducible (first | exact qS | assumption) | refine qN rfl ?_ | exact qO rfl))) (bin_sub hle (by have e1 : topK .i64 = 9223372036854775808 := rfl; have e2 : topK .u32 = 4294967296 := rfl; have e3 : topK .u64 = 18446744073709551616 := rfl; have e4 : topK .u8 = 256 := rfl; have e5 : topK .u16 = 65536 := rfl; omega)) ?_)
    refine RP.p rfl (op_assign (qT (by repeat (first | with_reducible (first | exact qS | assumption) | refine qN rfl ?_ | exact qO rfl))) ?_)
    refine RP.nil ?_
    exact Gives.ret0 (RS.one (by repeat (first | with_reducible (first | exact qS | assumption) | refine qN rfl ?_ | exact qO rfl)) ⟨by unfold oldS; rw [if_neg hb], hM1, hF1⟩)
theorem same_int (k : IntKind) (n : Int) : (AV.int k n).same (.int k n) = true := by
  simp only [AV.same, AV.same0]
  cases hk : decEq k k with
  | isFalse h => exact absurd rfl h
  | isTrue _ =>
    cases hn : decEq n n with
    | isFalse h => exact absurd rfl h
    | isTrue _ => rfl
theorem oldS_le (D : Nat → Nat) (a half : Nat) : oldS D a half ≤ 1 := by
  unfold oldS; split <;> omega
theorem olderAt_spec {d : Nat} (hS : SOk S) (hL : 1000000 ≤ L) {bv bm bw n start half : Nat} {D : Nat → Nat} {Z : Nat → Prop} (hM : VM h bv bm bw n D Z start half) :
    CS Tryz.prog X S L (d + 9) 36 [.ptr bv 0] h (fun v h' => v = .int .i64 (.ofNat (start + oldS D start half * half)) ∧ VM h' bv bm bw n D Z start half ∧ Fr (two bm bw) h h') := by
  have hle := oldS_le D start half
  have hs := hM.v.s
  have hh := hM.v.hh
  have hmul : oldS D start half * half ≤ 1 * half := Nat.mul_le_mul_right half hle
  obtain ⟨cv, v1, v2, v3, v4⟩ := hM.v.v
  refine CS.of (rs := [.tmp 2]) (hS.none _ (by decide) (by decide)) Tryz.func36 rfl rfl ?_
  refine Gives.seq ?_
  refine Gives.region [.p 0] (by kernel_rfl) ?_
  refine RP.p rfl (op_assign (show ev _ _ = some (.int .i64 (.ofNat 0)) from rfl) ?_)
  refine RP.nil ?_
  refine Gives.seq ?_
  refine Gives.seq ?_
  refine Gives.region [.p 0, .e 1 [], .p 2] (by kernel_rfl) ?_
  refine RP.p rfl (op_move (qT (by repeat (first | with_reducible (first | exact qS | assumption) | refine qN rfl ?_ | exact qO rfl))) ?_)
  refine RP.e rfl (op_calls (evs_cons (qT (by repeat (first | with_reducible (first | exact qS | assumption) | refine qN rfl ?_ | exact qO rfl))) evs_nil) (by kernel_rfl) (usable_spec hS hM.v) ?_)
  rintro v h' ⟨rfl, rfl⟩
  refine RP.p rfl (op_notT (qT (by repeat (first | with_reducible (first | exact qS | assumption) | refine qN rfl ?_ | exact qO rfl))) ?_)
  refine RP.nil ?_
  refine Gives.else_ (qT (by repeat (first | with_reducible (first | exact qS | assumption) | refine qN rfl ?_ | exact qO rfl))) ?_
  refine Gives.skip ?_
  refine Gives.seq ?_
  refine Gives.region [.p 0, .p 1, .p 2, .r 3, .p 4, .p 6, .p 7, .p 8, .r 9, .e 5 [3, 9], .p 10, .p 11, .p 12] (by kernel_rfl) ?_
  refine RP.p rfl (op_move (qT (by repeat (first | with_reducible (first | exact qS | assumption) | refine qN rfl ?_ | exact qO rfl))) ?_)
  refine RP.p rfl (op_nilCheck (qT (by repeat (first | with_reducible (first | exact qS | assumption) | refine qN rfl ?_ | exact qO rfl))) ?_)
  refine RP.p rfl (op_fieldAddr (off := 1) (qT (by repeat (first | with_reducible (first | exact qS | assumption) | refine qN rfl ?_ | exact qO rfl))) (by kernel_rfl) ?_)
  refine RP.r rfl (op_load (qT (by repeat (first | with_reducible (first | exact qS | assumption) | refine qN rfl ?_ | exact qO rfl))) (loadA_cell (by kernel_rfl) v1 (by omega) v3) ?_)
  refine RP.p rfl (op_move (qT (by repeat (first | with_reducible (first | exact qS | assumption) | refine qN rfl ?_ | exact qO rfl))) ?_)
  refine RP.p rfl (op_move (qT (by repeat (first | with_reducible (first | exact qS | assumption) | refine qN rfl ?_ | exact qO rfl))) ?_)
  refine RP.p rfl (op_nilCheck (qT (by repeat (first | with_reducible (first | exact qS | assumption) | refine qN rfl ?_ | exact qO rfl))) ?_)
  refine RP.p rfl (op_fieldAddr (off := 2) (qT (by repeat (first | with_reducible (first | exact qS | assumption) | refine qN rfl ?_ | exact qO rfl))) (by kernel_rfl) ?_)
  refine RP.r rfl (op_load (qT (by repeat (first | with_reducible (first | exact qS | assumption) | refine qN rfl ?_ | exact qO rfl))) (loadA_cell (by kernel_rfl) v1 (by omega) v4) ?_)
  refine RP.e rfl (op_callsR (evs_cons (qT (by repeat (first | with_reducible (first | exact qS | assumption) | refine qN rfl ?_ | exact qO rfl))) evs_nil) (by kernel_rfl) (older_spec hS hL hM) ?_ ?_)
  · rintro v h1 ⟨rfl, hM1, hF1⟩
    obtain ⟨cv1, w1, w2, w3, w4⟩ := hM1.v.v
    rw [List.all_cons, Bool.and_eq_true]
    exact ⟨chkR_load rfl (qT (by repeat (first | with_reducible (first | exact qS | assumption) | refine qN rfl ?_ | exact qO rfl))) (loadA_cell (by kernel_rfl) w1 (by omega) w3) (by repeat (first | with_reducible (first | exact qS | assumption) | refine qN rfl ?_ | exact qO rfl)) (same_int _ _), all_one (chkR_load rfl (qT (by repeat (first | with_reducible (first | exact qS | assumption) | refine qN rfl ?_ | exact qO rfl))) (loadA_cell (by kernel_rfl) w1 (by omega) w4) (by repeat (first | with_reducible (first | exact qS | assumption) | refine qN rfl ?_ | exact qO rfl)) (same_int _ _))⟩
  rintro v h1 ⟨rfl, hM1, hF1⟩
  refine RP.p rfl (op_bin (qT (by repeat (first | with_reducible (first | exact qS | assumption) | refine qN rfl ?_ | exact qO rfl))) (qT (by repeat (first | with_reducible (first | exact qS | assumption) | refine qN rfl ?_ | exact qO rfl))) (bin_mul (by have e1 : topK .i64 = 9223372036854775808 := rfl; have e2 : topK .u32 = 4294967296 := rfl; have e3 : topK .u64 = 18446744073709551616 := rfl; have e4 : topK .u8 = 256 := rfl; have e5 : topK .u16 = 65536 := rfl; omega)) ?_)
  refine RP.p rfl (op_bin (qT (by repeat (first | with_reducible (first | exact qS | assumption) | refine qN rfl ?_ | exact qO rfl))) (qT (by repeat (first | with_reducible (first | exact qS | assumption) | refine qN rfl ?_ | exact qO rfl))) (bin_add (by have e1 : topK .i64 = 9223372036854775808 := rfl; have e2 : topK .u32 = 4294967296 := rfl; have e3 : topK .u64 = 18446744073709551616 := rfl; have e4 : topK .u8 = 256 := rfl; have e5 : topK .u16 = 65536 := rfl; omega)) ?_)
  refine RP.p rfl (op_assign (qT (by repeat (first | with_reducible (first | exact qS | assumption) | refine qN rfl ?_ | exact qO rfl))) ?_)
  refine RP.nil ?_
  exact Gives.ret0 (RS.one (by repeat (first | with_reducible (first | exact qS | assumption) | refine qN rfl ?_ | exact qO rfl)) ⟨rfl, hM1, hF1⟩)
end Go.Abs

/- What the writes of a save do to the words, one after the other. No condition. -/
namespace Go.Abs
def svD (D : Nat → Nat) (a : Nat) (ws : List Nat) : Nat → Nat → Nat
  | 0 => D
  | j + 1 => if j = 0 then updN (svD D a ws j) a 0 else if j < ws.length then updN (svD D a ws j) (a + j) (ws.getD j 0) else updN (svD D a ws j) a (ws.getD 0 0)
theorem svD_out {D : Nat → Nat} {a i : Nat} {ws : List Nat} (hw : 0 < ws.length) (hi : i < a ∨ a + ws.length ≤ i) : ∀ j, svD D a ws j i = D i
  | 0 => rfl
  | j + 1 => by
    unfold svD
    have ih := svD_out (D := D) hw hi j
    split
    · rw [updN_ne (by omega)]; exact ih
    · split
      · rw [updN_ne (by omega)]; exact ih
      · rw [updN_ne (by omega)]; exact ih
theorem svD_zero {D : Nat → Nat} {a : Nat} {ws : List Nat} : ∀ j, 1 ≤ j → j ≤ ws.length → svD D a ws j a = 0
  | 0, h, _ => by omega
  | j + 1, _, h => by
    unfold svD
    split
    · exact updN_same
    · rw [if_pos (by omega), updN_ne (by omega)]
      exact svD_zero j (by omega) (by omega)
theorem svD_in {D : Nat → Nat} {a t : Nat} {ws : List Nat} (ht : 1 ≤ t) (htl : t < ws.length) : ∀ j, t < j → svD D a ws j (a + t) = ws.getD t 0
  | 0, h => by omega
  | j + 1, h => by
    unfold svD
    split
    · omega
    · split
      · by_cases e : t = j
        · subst e; exact updN_same
        · rw [updN_ne (by omega)]; exact svD_in ht htl j (by omega)
      · rw [updN_ne (by omega)]; exact svD_in ht htl j (by omega)
theorem svD_full {D : Nat → Nat} {a : Nat} {ws : List Nat} (hw : 0 < ws.length) {i x : Nat} (h : ws[i]? = some x) : svD D a ws (ws.length + 1) (a + i) = x := by
  have hi : i < ws.length := (List.getElem?_eq_some_iff.1 h).1
  have hx : ws.getD i 0 = x := by rw [List.getD_eq_getElem?_getD, h]; rfl
  cases i with
  | zero =>
    unfold svD
    rw [if_neg (by omega), if_neg (by omega), Nat.add_zero, updN_same]; exact hx
  | succ i => rw [svD_in (by omega) hi _ (by omega)]; exact hx
theorem sv_other {D : Nat → Nat} {start half j i : Nat} {ws : List Nat} (hw : 0 < ws.length) (hl : ws.length ≤ half) (hi : i < half) : svD D (start + oldS D start half * half) ws j (start + (1 - oldS D start half) * half + i) = D (start + (1 - oldS D start half) * half + i) := by
  have h01 : oldS D start half = 0 ∨ oldS D start half = 1 := by have := oldS_le D start half; omega
  refine svD_out hw ?_ j
  rcases h01 with e | e
  · rw [e]; right; simp; omega
  · rw [e]; left; simp; omega
theorem sv_cut {D : Nat → Nat} {start half j : Nat} {ws : List Nat} (h4 : 4 ≤ half) (hw : 0 < ws.length) (hl : ws.length ≤ half) (hj : j ≤ ws.length) : loadS (svD D (start + oldS D start half * half) ws j) start half = loadS D start half := by
  rcases Nat.eq_zero_or_pos j with rfl | hp
  · rfl
  · exact save_cut h4 (svD_zero j hp hj) fun i hi => sv_other hw hl hi
theorem sv_full {D : Nat → Nat} {start half : Nat} {img : List Nat} (h4 : 4 ≤ half) (hb : ∀ x ∈ img, x < 256) (hr : img.length ≤ 4 * (half - 3)) :
    loadS (svD D (start + oldS D start half * half) (wordsS ((newS D start half).2.1 + 1) img) ((wordsS ((newS D start half).2.1 + 1) img).length + 1)) start half = some img := by
  have hl : (wordsS ((newS D start half).2.1 + 1) img).length ≤ half := by rw [wordsS_length]; unfold wordsK; omega
  have hw : 0 < (wordsS ((newS D start half).2.1 + 1) img).length := by rw [wordsS_length]; omega
  exact save_full h4 hb hr (fun i x hx => svD_full hw hx) fun i hi => sv_other hw hl hi
end Go.Abs
