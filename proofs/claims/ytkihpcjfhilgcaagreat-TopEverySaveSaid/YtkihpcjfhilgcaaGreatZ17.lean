/- What the memory's functions give: reading, writing, flipping. No condition. -/
import Derived.Test.YtkihpcjfhilgcaaGreatZ14
namespace Go.Abs
open Go.Proofs
variable {X : Ext0} {S : Sums} {L : Nat} {h : H}
section
variable {P : Program} {call : CallA} {n : Nat} {F : Fm} {K : Fm → H → Prop} {ops : Array Oper}
variable {ty : TypeId} {pos : String} {af : Array Edge} {chk : List Nat} {d : Nat} {v : AV} {t : TypeId} {x y : Operand} {k : IntKind}
theorem bin_addI {p q : Int} : binA P .add t x y (.int k p) (.int k q) = some (.int k (k.wrap (p + q))) := by
  simp only [binA, scal]
  have : binOp .add t (.int k p) (.int k q) = .pure (.int k (k.wrap (p + q))) := by
    show (if k ≠ k then _ else _) = _; rw [if_neg (by simp)]; rfl
  rw [this]; rfl
theorem bin_subI {p q : Int} : binA P .sub t x y (.int k p) (.int k q) = some (.int k (k.wrap (p - q))) := by
  simp only [binA, scal]
  have : binOp .sub t (.int k p) (.int k q) = .pure (.int k (k.wrap (p - q))) := by
    show (if k ≠ k then _ else _) = _; rw [if_neg (by simp)]; rfl
  rw [this]; rfl
theorem bin_mulI {p q : Int} : binA P .mul t x y (.int k p) (.int k q) = some (.int k (k.wrap (p * q))) := by
  simp only [binA, scal]
  have : binOp .mul t (.int k p) (.int k q) = .pure (.int k (k.wrap (p * q))) := by
    show (if k ≠ k then _ else _) = _; rw [if_neg (by simp)]; rfl
  rw [this]; rfl
theorem bin_neq_nil {b o : Nat} {e : TypeId} (hu : P.underlying t = some (.pointer e)) : binA P .neq t x y (.ptr b o) .pnil = some (.bool true) := by
  simp only [binA, scal, eqOp, eqk, hu]; rfl
theorem bin_eql_nil {b o : Nat} {e : TypeId} (hu : P.underlying t = some (.pointer e)) : binA P .eql t x y (.ptr b o) .pnil = some (.bool false) := by
  simp only [binA, scal, eqOp, eqk, hu]; rfl
theorem bin_eql_nn {e : TypeId} (hu : P.underlying t = some (.pointer e)) : binA P .eql t x y .pnil .pnil = some (.bool true) := by
  simp only [binA, scal, eqOp, eqk, hu]; rfl
theorem bin_neq_nn {e : TypeId} (hu : P.underlying t = some (.pointer e)) : binA P .neq t x y .pnil .pnil = some (.bool false) := by
  simp only [binA, scal, eqOp, eqk, hu]; rfl
theorem at_off {c : Tr AV} {a : Nat} {r : Option AV} (h1 : c.at a = r) : c.at (0 + a * 1) = r := by rw [Nat.zero_add, Nat.mul_one]; exact h1
theorem op_notT (hx : ev F x = some (.bool true)) (hk : K (F.put d (.bool false)) h) : OpP P ops ⟨some d, .unOp .not t x, ty, pos, af, none⟩ F h K := op_not hx hk
theorem op_notF (hx : ev F x = some (.bool false)) (hk : K (F.put d (.bool true)) h) : OpP P ops ⟨some d, .unOp .not t x, ty, pos, af, none⟩ F h K := op_not hx hk
theorem chkR_load {r bb o : Nat} {s : Tmp} (ho : ops[r]? = some ⟨some s, .load t x, ty, pos, af, none⟩) (hx : ev F x = some (.ptr bb o)) (hl : loadA P h t bb o = some v) (hd : F.at s = some v) (hs : v.same v = true) : chkR P F h ops r = true := by
  simp only [chkR, ho, want_none, rop, hx, hl, hd, hs]
theorem all_one {r : Nat} {f : Nat → Bool} (h1 : f r = true) : [r].all f = true := by simp [h1]
theorem op_callsR {S : Sums} {dd : Nat} {g : FuncId} {args : Array Operand} {ts : Array TypeId} {vs : List AV} {Q : AV → H → Prop} (ha : evs F args.toList = some vs) (hg : okFn P g = true) (hc : CS P X S L dd g vs h Q)
    (hk : ∀ v h', Q v h' → chk.all (chkR P (F.put d v) h' ops) = true) (hK : ∀ v h', Q v h' → K (F.put d v) h') :
    OpE P X (callA P X S L dd) ops chk ⟨some d, .call ⟨.value (.func g), args, ts⟩, ty, pos, af, none⟩ F h K := by
  obtain ⟨v, h', e, q⟩ := hc
  exact op_call ha hg e (hk v h' q) (hK v h' q)
end
theorem repN_clean {m : Nat} (hm : m < 4294967296) : repN (enc m) = (enc m, 0) := by
  have h1 := enc_lt m hm
  unfold repN
  rw [if_neg (by have : enc m / 2 ^ 39 = 0 := Nat.div_eq_of_lt h1; omega), if_pos ⟨parity_enc m hm, syn_enc m hm⟩]
theorem repN_flip {m b : Nat} (hm : m < 4294967296) (hb : b < 39) : repN (enc m ^^^ 2 ^ b) = (enc m, 1) := by
  have h1 := enc_lt m hm
  have h2 : 2 ^ b < 2 ^ 39 := Nat.pow_lt_pow_right (by decide) hb
  have h3 := Nat.xor_lt_two_pow h1 h2
  obtain ⟨h4, h5⟩ := syn_flip m b hm hb
  unfold repN
  rw [if_neg (by have : (enc m ^^^ 2 ^ b) / 2 ^ 39 = 0 := Nat.div_eq_of_lt h3; omega), if_neg (by omega), if_neg (by omega), h4, Nat.xor_assoc, Nat.xor_self, Nat.xor_zero]
theorem decN_clean {m : Nat} (hm : m < 4294967296) : decN (enc m) = (m, 0) := by
  unfold decN
  rw [repN_clean hm, if_neg (by simp), data_enc m hm]
def Word (m : Nat) (z : Prop) (w : Nat) : Prop := m < 4294967296 ∧ (w = enc m ∨ z ∧ ∃ b, b < 39 ∧ w = enc m ^^^ 2 ^ b)
theorem Word.lt {m w : Nat} {z : Prop} (h : Word m z w) : w < 18446744073709551616 := by
  obtain ⟨hm, rfl | ⟨_, b, hb, rfl⟩⟩ := h
  · have := enc_lt m hm; omega
  · have h2 : 2 ^ b < 2 ^ 39 := Nat.pow_lt_pow_right (by decide) hb
    have := Nat.xor_lt_two_pow (enc_lt m hm) h2
    omega
theorem Word.clean {m : Nat} {z : Prop} (h : m < 4294967296) : Word m z (enc m) := ⟨h, .inl rfl⟩
structure Mem (h : H) (bm bw n : Nat) (D : Nat → Nat) (Z : Nat → Prop) : Prop where
  wf : WF h
  ne : bm ≠ bw
  le : n ≤ 65536
  m : ∃ cm cnt, h.obj bm = some (.cells 3 cm) ∧ cm.at 0 = some (.bool true) ∧ cm.at 1 = some (.slice bw 0 n n 1 true) ∧ cm.at 2 = some (.int .i64 cnt)
  w : ∃ cw, h.obj bw = some (.cells n cw) ∧ ∀ i, i < n → ∃ w, cw.at i = some (.int .u64 (.ofNat w)) ∧ Word (D i) (Z i) w
theorem Mem.fr {h h' : H} {bm bw n : Nat} {D : Nat → Nat} {Z : Nat → Prop} (m : Mem h bm bw n D Z) {B : Nat → Prop} (f : Fr B h h') (h1 : ¬ B bm) (h2 : ¬ B bw) : Mem h' bm bw n D Z := by
  obtain ⟨cm, cnt, g1, g2⟩ := m.m
  obtain ⟨cw, g3, g4⟩ := m.w
  exact ⟨f.wf, m.ne, m.le, ⟨cm, cnt, f.get m.wf g1 h1, g2⟩, ⟨cw, f.get m.wf g3 h2, g4⟩⟩
theorem mok_spec {d : Nat} (hS : SOk S) {bm : Nat} {cm : Tr AV} (g1 : h.obj bm = some (.cells 3 cm)) (g2 : cm.at 0 = some (.bool true)) : CS Tryz.prog X S L (d + 1) 59 [.ptr bm 0] h (fun v h' => v = .bool true ∧ h = h') := by
  refine CS.of (rs := [.tmp 2]) (hS.none _ (by decide) (by decide)) Tryz.func59 rfl rfl ?_
  refine Gives.seq ?_
  refine Gives.region [.p 0] (by kernel_rfl) ?_
  refine RP.p rfl (op_assign rfl ?_)
  refine RP.nil ?_
  refine Gives.seq ?_
  refine Gives.region [.p 0, .p 1, .p 2, .p 3, .p 4, .p 5, .r 6, .p 7, .p 8] (by kernel_rfl) ?_
  refine RP.p rfl (op_move (qT (by repeat (first | with_reducible (first | exact qS | assumption) | refine qN rfl ?_ | exact qO rfl))) ?_)
  refine RP.p rfl (op_bin (qT (by repeat (first | with_reducible (first | exact qS | assumption) | refine qN rfl ?_ | exact qO rfl))) rfl (bin_neq_nil Tryz.underlying27) ?_)
  refine RP.p rfl (op_move (qT (by repeat (first | with_reducible (first | exact qS | assumption) | refine qN rfl ?_ | exact qO rfl))) ?_)
  refine RP.p rfl (OpP.on' rfl rfl (by repeat (first | with_reducible (first | exact qS | assumption) | refine qN rfl ?_ | exact qO rfl)) (op_move (qT (by repeat (first | with_reducible (first | exact qS | assumption) | refine qN rfl ?_ | exact qO rfl))) ?_))
  refine RP.p rfl (OpP.on' rfl rfl (by repeat (first | with_reducible (first | exact qS | assumption) | refine qN rfl ?_ | exact qO rfl)) (op_nilCheck (qT (by repeat (first | with_reducible (first | exact qS | assumption) | refine qN rfl ?_ | exact qO rfl))) ?_))
  refine RP.p rfl (OpP.on' rfl rfl (by repeat (first | with_reducible (first | exact qS | assumption) | refine qN rfl ?_ | exact qO rfl)) (op_fieldAddr (off := 0) (qT (by repeat (first | with_reducible (first | exact qS | assumption) | refine qN rfl ?_ | exact qO rfl))) (by kernel_rfl) ?_))
  refine RP.r rfl (OpR.on' rfl rfl (by repeat (first | with_reducible (first | exact qS | assumption) | refine qN rfl ?_ | exact qO rfl)) (op_load (qT (by repeat (first | with_reducible (first | exact qS | assumption) | refine qN rfl ?_ | exact qO rfl))) (loadA_cell (by kernel_rfl) g1 (by omega) g2) ?_))
  refine RP.p rfl (op_pick_t (qT (by repeat (first | with_reducible (first | exact qS | assumption) | refine qN rfl ?_ | exact qO rfl))) (qT (by repeat (first | with_reducible (first | exact qS | assumption) | refine qN rfl ?_ | exact qO rfl))) ?_)
  refine RP.p rfl (op_assign (qT (by repeat (first | with_reducible (first | exact qS | assumption) | refine qN rfl ?_ | exact qO rfl))) ?_)
  refine RP.nil ?_
  exact Gives.ret0 (RS.one (by repeat (first | with_reducible (first | exact qS | assumption) | refine qN rfl ?_ | exact qO rfl)) ⟨rfl, rfl⟩)
theorem mcheck_spec {d : Nat} (hS : SOk S) {bm bw n : Nat} {D : Nat → Nat} {Z : Nat → Prop} (hM : Mem h bm bw n D Z) (a : Int) :
    CS Tryz.prog X S L (d + 2) 30 [.ptr bm 0, .int .i64 a] h (fun v h' => v = .int .i64 (.ofNat (if 0 ≤ a ∧ a < n then 0 else 1)) ∧ h = h') := by
  obtain ⟨cm, cnt, g1, g2, g3, g4⟩ := hM.m
  refine CS.of (rs := [.tmp 4]) (hS.none _ (by decide) (by decide)) Tryz.func30 rfl rfl ?_
  refine Gives.seq ?_
  refine Gives.region [.p 0] (by kernel_rfl) ?_
  refine RP.p rfl (op_assign (show ev _ _ = some (.int .i64 (.ofNat 0)) from rfl) ?_)
  refine RP.nil ?_
  refine Gives.seq ?_
  refine Gives.block ?_
  refine Gives.seq ?_
  refine Gives.region [.p 0, .e 1 [], .p 2, .p 3] (by kernel_rfl) ?_
  refine RP.p rfl (op_move (qT (by repeat (first | with_reducible (first | exact qS | assumption) | refine qN rfl ?_ | exact qO rfl))) ?_)
  refine RP.e rfl (op_calls (evs_cons (qT (by repeat (first | with_reducible (first | exact qS | assumption) | refine qN rfl ?_ | exact qO rfl))) evs_nil) (by kernel_rfl) (mok_spec hS g1 g2) ?_)
  rintro v h' ⟨rfl, rfl⟩
  refine RP.p rfl (op_notT (qT (by repeat (first | with_reducible (first | exact qS | assumption) | refine qN rfl ?_ | exact qO rfl))) ?_)
  refine RP.p rfl (op_assign (qT (by repeat (first | with_reducible (first | exact qS | assumption) | refine qN rfl ?_ | exact qO rfl))) ?_)
  refine RP.nil ?_
  refine Gives.else_ (qT (by repeat (first | with_reducible (first | exact qS | assumption) | refine qN rfl ?_ | exact qO rfl))) ?_
  refine Gives.seq ?_
  refine Gives.region [.p 0, .p 1, .p 2, .p 3, .p 4, .p 5, .p 6, .r 7, .p 8, .p 9, .p 10, .p 11] (by kernel_rfl) ?_
  by_cases ha : 0 ≤ a
  · have e1 : decide (a < Int.ofNat 0) = false := by simp; omega
    refine RP.p rfl (op_move (qT (by repeat (first | with_reducible (first | exact qS | assumption) | refine qN rfl ?_ | exact qO rfl))) ?_)
    refine RP.p rfl (op_bin (qT (by repeat (first | with_reducible (first | exact qS | assumption) | refine qN rfl ?_ | exact qO rfl))) (show ev _ _ = some (.int .i64 (.ofNat 0)) from rfl) bin_lss ?_)
    rw [e1]
    refine RP.p rfl (op_move (qT (by repeat (first | with_reducible (first | exact qS | assumption) | refine qN rfl ?_ | exact qO rfl))) ?_)
    refine RP.p rfl (OpP.on' rfl rfl (by repeat (first | with_reducible (first | exact qS | assumption) | refine qN rfl ?_ | exact qO rfl)) (op_move (qT (by repeat (first | with_reducible (first | exact qS | assumption) | refine qN rfl ?_ | exact qO rfl))) ?_))
    refine RP.p rfl (OpP.on' rfl rfl (by repeat (first | with_reducible (first | exact qS | assumption) | refine qN rfl ?_ | exact qO rfl)) (op_move (qT (by repeat (first | with_reducible (first | exact qS | assumption) | refine qN rfl ?_ | exact qO rfl))) ?_))
    refine RP.p rfl (OpP.on' rfl rfl (by repeat (first | with_reducible (first | exact qS | assumption) | refine qN rfl ?_ | exact qO rfl)) (op_nilCheck (qT (by repeat (first | with_reducible (first | exact qS | assumption) | refine qN rfl ?_ | exact qO rfl))) ?_))
    refine RP.p rfl (OpP.on' rfl rfl (by repeat (first | with_reducible (first | exact qS | assumption) | refine qN rfl ?_ | exact qO rfl)) (op_fieldAddr (off := 1) (qT (by repeat (first | with_reducible (first | exact qS | assumption) | refine qN rfl ?_ | exact qO rfl))) (by kernel_rfl) ?_))
    refine RP.r rfl (OpR.on' rfl rfl (by repeat (first | with_reducible (first | exact qS | assumption) | refine qN rfl ?_ | exact qO rfl)) (op_load (qT (by repeat (first | with_reducible (first | exact qS | assumption) | refine qN rfl ?_ | exact qO rfl))) (loadA_cell (by kernel_rfl) g1 (by omega) g3) ?_))
    refine RP.p rfl (OpP.on' rfl rfl (by repeat (first | with_reducible (first | exact qS | assumption) | refine qN rfl ?_ | exact qO rfl)) (op_len_slice (qT (by repeat (first | with_reducible (first | exact qS | assumption) | refine qN rfl ?_ | exact qO rfl))) Tryz.underlying67 ?_))
    refine RP.p rfl (OpP.on' rfl rfl (by repeat (first | with_reducible (first | exact qS | assumption) | refine qN rfl ?_ | exact qO rfl)) (op_bin (qT (by repeat (first | with_reducible (first | exact qS | assumption) | refine qN rfl ?_ | exact qO rfl))) (qT (by repeat (first | with_reducible (first | exact qS | assumption) | refine qN rfl ?_ | exact qO rfl))) bin_geq ?_))
    refine RP.p rfl (op_pick_f (qT (by repeat (first | with_reducible (first | exact qS | assumption) | refine qN rfl ?_ | exact qO rfl))) (qT (by repeat (first | with_reducible (first | exact qS | assumption) | refine qN rfl ?_ | exact qO rfl))) ?_)
    refine RP.p rfl (op_assign (qT (by repeat (first | with_reducible (first | exact qS | assumption) | refine qN rfl ?_ | exact qO rfl))) ?_)
    refine RP.nil ?_
    refine Gives.cond (qT (by repeat (first | with_reducible (first | exact qS | assumption) | refine qN rfl ?_ | exact qO rfl))) (fun hb => ?_) (fun hb => ?_)
    · have hn : ¬ (0 ≤ a ∧ a < n) := by have := of_decide_eq_true hb; simp at this; omega
      refine Gives.seq ?_
      refine Gives.region [.p 0] (by kernel_rfl) ?_
      refine RP.p rfl (op_assign (show ev _ _ = some (.int .i64 (.ofNat 1)) from rfl) ?_)
      refine RP.nil ?_
      exact Gives.ret1 (RS.one (by repeat (first | with_reducible (first | exact qS | assumption) | refine qN rfl ?_ | exact qO rfl)) ⟨by rw [if_neg hn], rfl⟩)
    · have hn : 0 ≤ a ∧ a < n := by have := of_decide_eq_false hb; simp at this; omega
      refine Gives.skip ?_
      refine Gives.seq ?_
      refine Gives.region [.p 0] (by kernel_rfl) ?_
      refine RP.p rfl (op_assign (show ev _ _ = some (.int .i64 (.ofNat 0)) from rfl) ?_)
      refine RP.nil ?_
      exact Gives.ret0 (RS.one (by repeat (first | with_reducible (first | exact qS | assumption) | refine qN rfl ?_ | exact qO rfl)) ⟨by rw [if_pos hn], rfl⟩)
  · have e1 : decide (a < Int.ofNat 0) = true := by simp; omega
    refine RP.p rfl (op_move (qT (by repeat (first | with_reducible (first | exact qS | assumption) | refine qN rfl ?_ | exact qO rfl))) ?_)
    refine RP.p rfl (op_bin (qT (by repeat (first | with_reducible (first | exact qS | assumption) | refine qN rfl ?_ | exact qO rfl))) (show ev _ _ = some (.int .i64 (.ofNat 0)) from rfl) bin_lss ?_)
    rw [e1]
    refine RP.p rfl (op_move (qT (by repeat (first | with_reducible (first | exact qS | assumption) | refine qN rfl ?_ | exact qO rfl))) ?_)
    refine RP.p rfl (OpP.offT rfl rfl (by repeat (first | with_reducible (first | exact qS | assumption) | refine qN rfl ?_ | exact qO rfl)) ?_)
    refine RP.p rfl (OpP.offT rfl rfl (by repeat (first | with_reducible (first | exact qS | assumption) | refine qN rfl ?_ | exact qO rfl)) ?_)
    refine RP.p rfl (OpP.offT rfl rfl (by repeat (first | with_reducible (first | exact qS | assumption) | refine qN rfl ?_ | exact qO rfl)) ?_)
    refine RP.p rfl (OpP.offT rfl rfl (by repeat (first | with_reducible (first | exact qS | assumption) | refine qN rfl ?_ | exact qO rfl)) ?_)
    refine RP.r rfl (OpR.offT rfl rfl (by repeat (first | with_reducible (first | exact qS | assumption) | refine qN rfl ?_ | exact qO rfl)) ?_)
    refine RP.p rfl (OpP.offT rfl rfl (by repeat (first | with_reducible (first | exact qS | assumption) | refine qN rfl ?_ | exact qO rfl)) ?_)
    refine RP.p rfl (OpP.offT rfl rfl (by repeat (first | with_reducible (first | exact qS | assumption) | refine qN rfl ?_ | exact qO rfl)) ?_)
    refine RP.p rfl (op_pick_t (qT (by repeat (first | with_reducible (first | exact qS | assumption) | refine qN rfl ?_ | exact qO rfl))) rfl ?_)
    refine RP.p rfl (op_assign (qT (by repeat (first | with_reducible (first | exact qS | assumption) | refine qN rfl ?_ | exact qO rfl))) ?_)
    refine RP.nil ?_
    refine Gives.then_ (qT (by repeat (first | with_reducible (first | exact qS | assumption) | refine qN rfl ?_ | exact qO rfl))) ?_
    refine Gives.seq ?_
    refine Gives.region [.p 0] (by kernel_rfl) ?_
    refine RP.p rfl (op_assign (show ev _ _ = some (.int .i64 (.ofNat 1)) from rfl) ?_)
    refine RP.nil ?_
    exact Gives.ret1 (RS.one (by repeat (first | with_reducible (first | exact qS | assumption) | refine qN rfl ?_ | exact qO rfl)) ⟨by rw [if_neg (by omega)], rfl⟩)
theorem msize_spec {d : Nat} (hS : SOk S) {bm bw n : Nat} {D : Nat → Nat} {Z : Nat → Prop} (hM : Mem h bm bw n D Z) :
    CS Tryz.prog X S L (d + 2) 24 [.ptr bm 0] h (fun v h' => v = .int .i64 (.ofNat n) ∧ h = h') := by
  obtain ⟨cm, cnt, g1, g2, g3, g4⟩ := hM.m
  refine CS.of (rs := [.tmp 2]) (hS.none _ (by decide) (by decide)) Tryz.func24 rfl rfl ?_
  refine Gives.seq ?_
  refine Gives.region [.p 0] (by kernel_rfl) ?_
  refine RP.p rfl (op_assign (show ev _ _ = some (.int .i64 (.ofNat 0)) from rfl) ?_)
  refine RP.nil ?_
  refine Gives.seq ?_
  refine Gives.seq ?_
  refine Gives.region [.p 0, .e 1 [], .p 2] (by kernel_rfl) ?_
  refine RP.p rfl (op_move (qT (by repeat (first | with_reducible (first | exact qS | assumption) | refine qN rfl ?_ | exact qO rfl))) ?_)
  refine RP.e rfl (op_calls (evs_cons (qT (by repeat (first | with_reducible (first | exact qS | assumption) | refine qN rfl ?_ | exact qO rfl))) evs_nil) (by kernel_rfl) (mok_spec hS g1 g2) ?_)
  rintro v h' ⟨rfl, rfl⟩
  refine RP.p rfl (op_notT (qT (by repeat (first | with_reducible (first | exact qS | assumption) | refine qN rfl ?_ | exact qO rfl))) ?_)
  refine RP.nil ?_
  refine Gives.else_ (qT (by repeat (first | with_reducible (first | exact qS | assumption) | refine qN rfl ?_ | exact qO rfl))) ?_
  refine Gives.skip ?_
  refine Gives.seq ?_
  refine Gives.region [.p 0, .p 1, .p 2, .r 3, .p 4, .p 5] (by kernel_rfl) ?_
  refine RP.p rfl (op_move (qT (by repeat (first | with_reducible (first | exact qS | assumption) | refine qN rfl ?_ | exact qO rfl))) ?_)
  refine RP.p rfl (op_nilCheck (qT (by repeat (first | with_reducible (first | exact qS | assumption) | refine qN rfl ?_ | exact qO rfl))) ?_)
  refine RP.p rfl (op_fieldAddr (off := 1) (qT (by repeat (first | with_reducible (first | exact qS | assumption) | refine qN rfl ?_ | exact qO rfl))) (by kernel_rfl) ?_)
  refine RP.r rfl (op_load (qT (by repeat (first | with_reducible (first | exact qS | assumption) | refine qN rfl ?_ | exact qO rfl))) (loadA_cell (by kernel_rfl) g1 (by omega) g3) ?_)
  refine RP.p rfl (op_len_slice (qT (by repeat (first | with_reducible (first | exact qS | assumption) | refine qN rfl ?_ | exact qO rfl))) Tryz.underlying67 ?_)
  refine RP.p rfl (op_assign (qT (by repeat (first | with_reducible (first | exact qS | assumption) | refine qN rfl ?_ | exact qO rfl))) ?_)
  refine RP.nil ?_
  exact Gives.ret0 (RS.one (by repeat (first | with_reducible (first | exact qS | assumption) | refine qN rfl ?_ | exact qO rfl)) ⟨rfl, rfl⟩)
theorem repN_word {m w : Nat} {z : Prop} (h : Word m z w) : (repN w).1 = enc m ∧ ((repN w).2 = 0 ∧ w = enc m ∨ (repN w).2 = 1) := by
  obtain ⟨hm, rfl | ⟨_, b, hb, rfl⟩⟩ := h
  · rw [repN_clean hm]; exact ⟨rfl, .inl ⟨rfl, rfl⟩⟩
  · rw [repN_flip hm hb]; exact ⟨rfl, .inr rfl⟩
theorem Mem.setw {bm bw n : Nat} {D D' : Nat → Nat} {Z Z' : Nat → Prop} (m : Mem h bm bw n D Z) {cw : Tr AV} (g1 : h.obj bw = some (.cells n cw)) (a w : Nat) (hw : Word (D' a) (Z' a) w)
    (ho : ∀ i, i < n → i ≠ a → ∃ w, cw.at i = some (.int .u64 (.ofNat w)) ∧ Word (D' i) (Z' i) w) : Mem (h.set bw (.cells n (cw.put a (.int .u64 (.ofNat w))))) bm bw n D' Z' := by
  obtain ⟨cm, cnt, g2, g3⟩ := m.m
  refine ⟨m.wf.set (m.wf.lt g1), m.ne, m.le, ⟨cm, cnt, obj_set_ne m.ne g2, g3⟩, ⟨_, obj_set_same (by simp), fun i hi => ?_⟩⟩
  by_cases e : i = a
  · subst e; exact ⟨w, by rw [Tr.at_put, if_pos rfl], hw⟩
  · obtain ⟨u, h1, h2⟩ := ho i hi e
    exact ⟨u, by rw [Tr.at_put, if_neg e]; exact h1, h2⟩
theorem Mem.setm {bm bw n : Nat} {D : Nat → Nat} {Z : Nat → Prop} (m : Mem h bm bw n D Z) {cm : Tr AV} (g1 : h.obj bm = some (.cells 3 cm)) (cnt : Int) : Mem (h.set bm (.cells 3 (cm.put 2 (.int .i64 cnt)))) bm bw n D Z := by
  obtain ⟨cm', cnt', g2, g3, g4, g5⟩ := m.m
  obtain ⟨cw, g6, g7⟩ := m.w
  rw [g1] at g2; cases g2
  refine ⟨m.wf.set (m.wf.lt g1), m.ne, m.le, ⟨_, cnt, obj_set_same (by simp), ?_, ?_, ?_⟩, ⟨cw, obj_set_ne (Ne.symm m.ne) g6, g7⟩⟩
  · rw [Tr.at_put, if_neg (by decide)]; exact g3
  · rw [Tr.at_put, if_neg (by decide)]; exact g4
  · rw [Tr.at_put, if_pos rfl]
def two (a b : Nat) : Nat → Prop := fun x => x = a ∨ x = b
theorem mrepair_spec {d : Nat} (hS : SOk S) (hL : 100 ≤ L) {bm bw n : Nat} {D : Nat → Nat} {Z : Nat → Prop} (hM : Mem h bm bw n D Z) (a : Nat) (ha : a < n) :
    CS Tryz.prog X S L (d + 4) 57 [.ptr bm 0, .int .i64 (.ofNat a)] h (fun v h' => (∃ r, r < 2 ∧ v = .int .i64 (.ofNat r)) ∧ Mem h' bm bw n D Z ∧ Fr (two bm bw) h h' ∧ ∃ cw, h'.obj bw = some (.cells n cw) ∧ cw.at a = some (.int .u64 (.ofNat (enc (D a))))) := by
  obtain ⟨cm, cnt, g1, g2, g3, g4⟩ := hM.m
  obtain ⟨cw, g5, g6⟩ := hM.w
  obtain ⟨w, g7, g8⟩ := g6 a ha
  have hwl := g8.lt
  obtain ⟨r1, r2⟩ := repN_word g8
  refine CS.of (rs := [.tmp 4]) (hS.none _ (by decide) (by decide)) Tryz.func57 rfl rfl ?_
  refine Gives.seq ?_
  refine Gives.region [.p 0] (by kernel_rfl) ?_
  refine RP.p rfl (op_assign (show ev _ _ = some (.int .i64 (.ofNat 0)) from rfl) ?_)
  refine RP.nil ?_
  refine Gives.seq ?_
  refine Gives.region [.p 0, .p 1, .p 2, .r 3, .p 4, .p 5, .r 6, .e 7 [], .p 8, .p 9, .p 10, .p 11, .p 12] (by kernel_rfl) ?_
  refine RP.p rfl (op_move (qT (by repeat (first | with_reducible (first | exact qS | assumption) | refine qN rfl ?_ | exact qO rfl))) ?_)
  refine RP.p rfl (op_nilCheck (qT (by repeat (first | with_reducible (first | exact qS | assumption) | refine qN rfl ?_ | exact qO rfl))) ?_)
  refine RP.p rfl (op_fieldAddr (off := 1) (qT (by repeat (first | with_reducible (first | exact qS | assumption) | refine qN rfl ?_ | exact qO rfl))) (by kernel_rfl) ?_)
  refine RP.r rfl (op_load (qT (by repeat (first | with_reducible (first | exact qS | assumption) | refine qN rfl ?_ | exact qO rfl))) (loadA_cell (by kernel_rfl) g1 (by omega) g3) ?_)
  refine RP.p rfl (op_move (qT (by repeat (first | with_reducible (first | exact qS | assumption) | refine qN rfl ?_ | exact qO rfl))) ?_)
  refine RP.p rfl (op_indexAddr (qT (by repeat (first | with_reducible (first | exact qS | assumption) | refine qN rfl ?_ | exact qO rfl))) (qT (by repeat (first | with_reducible (first | exact qS | assumption) | refine qN rfl ?_ | exact qO rfl))) Tryz.underlying67 (by kernel_rfl) ha (Nat.le_refl _) ?_)
  refine RP.r rfl (op_load (qT (by repeat (first | with_reducible (first | exact qS | assumption) | refine qN rfl ?_ | exact qO rfl))) (loadA_cell (by kernel_rfl) g5 (by omega) (at_off g7)) ?_)
  refine RP.e rfl (op_calls (evs_cons (qT (by repeat (first | with_reducible (first | exact qS | assumption) | refine qN rfl ?_ | exact qO rfl))) evs_nil) (by kernel_rfl) (repair_spec hS hL w hwl) ?_)
  rintro v h' ⟨rfl, rfl⟩
  refine RP.p rfl (op_move (qT (by repeat (first | with_reducible (first | exact qS | assumption) | refine qN rfl ?_ | exact qO rfl))) ?_)
  refine RP.p rfl (op_extract (qT (by repeat (first | with_reducible (first | exact qS | assumption) | refine qN rfl ?_ | exact qO rfl))) rfl ?_)
  refine RP.p rfl (op_extract (qT (by repeat (first | with_reducible (first | exact qS | assumption) | refine qN rfl ?_ | exact qO rfl))) rfl ?_)
  refine RP.p rfl (op_assign (qT (by repeat (first | with_reducible (first | exact qS | assumption) | refine qN rfl ?_ | exact qO rfl))) ?_)
  refine RP.p rfl (op_assign (qT (by repeat (first | with_reducible (first | exact qS | assumption) | refine qN rfl ?_ | exact qO rfl))) ?_)
  refine RP.nil ?_
  rw [r1]
  refine Gives.seq ?_
  refine Gives.seq ?_
  refine Gives.region [.p 0, .p 1] (by kernel_rfl) ?_
  rcases r2 with ⟨r2, rfl⟩ | r2
  · rw [r2]
    refine RP.p rfl (op_move (qT (by repeat (first | with_reducible (first | exact qS | assumption) | refine qN rfl ?_ | exact qO rfl))) ?_)
    refine RP.p rfl (op_bin (qT (by repeat (first | with_reducible (first | exact qS | assumption) | refine qN rfl ?_ | exact qO rfl))) (show ev _ _ = some (.int .i64 (.ofNat 1)) from rfl) (bin_eql_f (by decide)) ?_)
    refine RP.nil ?_
    refine Gives.else_ (qT (by repeat (first | with_reducible (first | exact qS | assumption) | refine qN rfl ?_ | exact qO rfl))) ?_
    refine Gives.skip ?_
    refine Gives.seq ?_
    refine Gives.region [.p 0, .p 1] (by kernel_rfl) ?_
    refine RP.p rfl (op_move (qT (by repeat (first | with_reducible (first | exact qS | assumption) | refine qN rfl ?_ | exact qO rfl))) ?_)
    refine RP.p rfl (op_assign (qT (by repeat (first | with_reducible (first | exact qS | assumption) | refine qN rfl ?_ | exact qO rfl))) ?_)
    refine RP.nil ?_
    exact Gives.ret0 (RS.one (by repeat (first | with_reducible (first | exact qS | assumption) | refine qN rfl ?_ | exact qO rfl)) ⟨⟨0, by decide, rfl⟩, hM, .refl hM.wf, cw, g5, g7⟩)
  · rw [r2]
    have hwf1 : Mem (h.set bw (.cells n (cw.put (0 + a * 1) (.int .u64 (.ofNat (enc (D a))))))) bm bw n D Z := by
      rw [Nat.zero_add, Nat.mul_one]
      exact hM.setw g5 a _ (.clean g8.1) fun i hi _ => g6 i hi
    obtain ⟨cm2, cnt2, k1, k2, k3, k4⟩ := hwf1.m
    refine RP.p rfl (op_move (qT (by repeat (first | with_reducible (first | exact qS | assumption) | refine qN rfl ?_ | exact qO rfl))) ?_)
    refine RP.p rfl (op_bin (qT (by repeat (first | with_reducible (first | exact qS | assumption) | refine qN rfl ?_ | exact qO rfl))) (show ev _ _ = some (.int .i64 (.ofNat 1)) from rfl) (bin_eql_t rfl) ?_)
    refine RP.nil ?_
    refine Gives.then_ (qT (by repeat (first | with_reducible (first | exact qS | assumption) | refine qN rfl ?_ | exact qO rfl))) ?_
    refine Gives.seq ?_
    refine Gives.region [.p 0, .p 1, .p 2, .r 3, .p 4, .p 5, .p 6, .e 7 []] (by kernel_rfl) ?_
    refine RP.p rfl (op_move (qT (by repeat (first | with_reducible (first | exact qS | assumption) | refine qN rfl ?_ | exact qO rfl))) ?_)
    refine RP.p rfl (op_nilCheck (qT (by repeat (first | with_reducible (first | exact qS | assumption) | refine qN rfl ?_ | exact qO rfl))) ?_)
    refine RP.p rfl (op_fieldAddr (off := 1) (qT (by repeat (first | with_reducible (first | exact qS | assumption) | refine qN rfl ?_ | exact qO rfl))) (by kernel_rfl) ?_)
    refine RP.r rfl (op_load (qT (by repeat (first | with_reducible (first | exact qS | assumption) | refine qN rfl ?_ | exact qO rfl))) (loadA_cell (by kernel_rfl) g1 (by omega) g3) ?_)
    refine RP.p rfl (op_move (qT (by repeat (first | with_reducible (first | exact qS | assumption) | refine qN rfl ?_ | exact qO rfl))) ?_)
    refine RP.p rfl (op_move (qT (by repeat (first | with_reducible (first | exact qS | assumption) | refine qN rfl ?_ | exact qO rfl))) ?_)
    refine RP.p rfl (op_indexAddr (qT (by repeat (first | with_reducible (first | exact qS | assumption) | refine qN rfl ?_ | exact qO rfl))) (qT (by repeat (first | with_reducible (first | exact qS | assumption) | refine qN rfl ?_ | exact qO rfl))) Tryz.underlying67 (by kernel_rfl) ha (Nat.le_refl _) ?_)
    refine RP.e rfl (op_store (qT (by repeat (first | with_reducible (first | exact qS | assumption) | refine qN rfl ?_ | exact qO rfl))) (qT (by repeat (first | with_reducible (first | exact qS | assumption) | refine qN rfl ?_ | exact qO rfl))) g5 (by kernel_rfl) rfl (by omega) ?_)
    refine RP.nil ?_
    refine Gives.region [.p 0, .p 1, .p 2, .r 3, .p 4, .p 5, .p 6, .e 7 []] (by kernel_rfl) ?_
    refine RP.p rfl (op_move (qT (by repeat (first | with_reducible (first | exact qS | assumption) | refine qN rfl ?_ | exact qO rfl))) ?_)
    refine RP.p rfl (op_nilCheck (qT (by repeat (first | with_reducible (first | exact qS | assumption) | refine qN rfl ?_ | exact qO rfl))) ?_)
    refine RP.p rfl (op_fieldAddr (off := 2) (qT (by repeat (first | with_reducible (first | exact qS | assumption) | refine qN rfl ?_ | exact qO rfl))) (by kernel_rfl) ?_)
    refine RP.r rfl (op_load (qT (by repeat (first | with_reducible (first | exact qS | assumption) | refine qN rfl ?_ | exact qO rfl))) (loadA_cell (by kernel_rfl) k1 (by omega) k4) ?_)
    refine RP.p rfl (op_bin (qT (by repeat (first | with_reducible (first | exact qS | assumption) | refine qN rfl ?_ | exact qO rfl))) (show ev _ _ = some (.int .i64 (.ofNat 1)) from rfl) bin_addI ?_)
    refine RP.p rfl (op_nilCheck (qT (by repeat (first | with_reducible (first | exact qS | assumption) | refine qN rfl ?_ | exact qO rfl))) ?_)
    refine RP.p rfl (op_fieldAddr (off := 2) (qT (by repeat (first | with_reducible (first | exact qS | assumption) | refine qN rfl ?_ | exact qO rfl))) (by kernel_rfl) ?_)
    refine RP.e rfl (op_store (qT (by repeat (first | with_reducible (first | exact qS | assumption) | refine qN rfl ?_ | exact qO rfl))) (qT (by repeat (first | with_reducible (first | exact qS | assumption) | refine qN rfl ?_ | exact qO rfl))) k1 (by kernel_rfl) rfl (by omega) ?_)
    refine RP.nil ?_
    refine Gives.seq ?_
    refine Gives.region [.p 0, .p 1] (by kernel_rfl) ?_
    refine RP.p rfl (op_move (qT (by repeat (first | with_reducible (first | exact qS | assumption) | refine qN rfl ?_ | exact qO rfl))) ?_)
    refine RP.p rfl (op_assign (qT (by repeat (first | with_reducible (first | exact qS | assumption) | refine qN rfl ?_ | exact qO rfl))) ?_)
    refine RP.nil ?_
    have f1 : Fr (two bm bw) h (h.set bw (.cells n (cw.put (0 + a * 1) (.int .u64 (.ofNat (enc (D a))))))) := (Fr.refl hM.wf).set _ (hM.wf.lt g5) fun _ => .inr rfl
    refine Gives.ret0 (RS.one (by repeat (first | with_reducible (first | exact qS | assumption) | refine qN rfl ?_ | exact qO rfl)) ⟨⟨1, by decide, rfl⟩, hwf1.setm k1 _, f1.set _ (hwf1.wf.lt k1) fun _ => .inl rfl, _, obj_set_ne (Ne.symm hM.ne) (obj_set_same (by simp)), ?_⟩)
    rw [Nat.zero_add, Nat.mul_one, Tr.at_put, if_pos rfl]
theorem mread_spec {d : Nat} (hS : SOk S) (hL : 100 ≤ L) {bm bw n : Nat} {D : Nat → Nat} {Z : Nat → Prop} (hM : Mem h bm bw n D Z) (a : Int) :
    CS Tryz.prog X S L (d + 5) 23 [.ptr bm 0, .int .i64 a] h (fun v h' => v = (if 0 ≤ a ∧ a < n then .tup [.int .u32 (.ofNat (D a.toNat)), .int .i64 (.ofNat 0)] else .tup [.int .u32 (.ofNat 0), .int .i64 (.ofNat 1)]) ∧ Mem h' bm bw n D Z ∧ Fr (two bm bw) h h') := by
  refine CS.of (rs := [.tmp 4, .tmp 5]) (hS.none _ (by decide) (by decide)) Tryz.func23 rfl rfl ?_
  refine Gives.seq ?_
  refine Gives.region [.p 0, .p 1] (by kernel_rfl) ?_
  refine RP.p rfl (op_assign (show ev _ _ = some (.int .u32 (.ofNat 0)) from rfl) ?_)
  refine RP.p rfl (op_assign (show ev _ _ = some (.int .i64 (.ofNat 0)) from rfl) ?_)
  refine RP.nil ?_
  refine Gives.seq ?_
  refine Gives.seq ?_
  refine Gives.region [.p 0, .p 1, .e 2 [], .p 3] (by kernel_rfl) ?_
  refine RP.p rfl (op_move (qT (by repeat (first | with_reducible (first | exact qS | assumption) | refine qN rfl ?_ | exact qO rfl))) ?_)
  refine RP.p rfl (op_move (qT (by repeat (first | with_reducible (first | exact qS | assumption) | refine qN rfl ?_ | exact qO rfl))) ?_)
  refine RP.e rfl (op_calls (evs_cons (qT (by repeat (first | with_reducible (first | exact qS | assumption) | refine qN rfl ?_ | exact qO rfl))) (evs_cons (qT (by repeat (first | with_reducible (first | exact qS | assumption) | refine qN rfl ?_ | exact qO rfl))) evs_nil)) (by kernel_rfl) (mcheck_spec hS hM a) ?_)
  rintro v h' ⟨rfl, rfl⟩
  refine RP.p rfl (op_assign (qT (by repeat (first | with_reducible (first | exact qS | assumption) | refine qN rfl ?_ | exact qO rfl))) ?_)
  refine RP.nil ?_
  refine Gives.seq ?_
  refine Gives.region [.p 0, .p 1] (by kernel_rfl) ?_
  by_cases hc : 0 ≤ a ∧ a < n
  case neg =>
    rw [if_neg hc]
    refine RP.p rfl (op_move (qT (by repeat (first | with_reducible (first | exact qS | assumption) | refine qN rfl ?_ | exact qO rfl))) ?_)
    refine RP.p rfl (op_bin (qT (by repeat (first | with_reducible (first | exact qS | assumption) | refine qN rfl ?_ | exact qO rfl))) (show ev _ _ = some (.int .i64 (.ofNat 0)) from rfl) (bin_neq_t (by decide)) ?_)
    refine RP.nil ?_
    refine Gives.then_ (qT (by repeat (first | with_reducible (first | exact qS | assumption) | refine qN rfl ?_ | exact qO rfl))) ?_
    refine Gives.seq ?_
    refine Gives.region [.p 0, .p 1, .p 2] (by kernel_rfl) ?_
    refine RP.p rfl (op_move (qT (by repeat (first | with_reducible (first | exact qS | assumption) | refine qN rfl ?_ | exact qO rfl))) ?_)
    refine RP.p rfl (op_assign (show ev _ _ = some (.int .u32 (.ofNat 0)) from rfl) ?_)
    refine RP.p rfl (op_assign (qT (by repeat (first | with_reducible (first | exact qS | assumption) | refine qN rfl ?_ | exact qO rfl))) ?_)
    refine RP.nil ?_
    exact Gives.ret0 (RS.two (by repeat (first | with_reducible (first | exact qS | assumption) | refine qN rfl ?_ | exact qO rfl)) (by repeat (first | with_reducible (first | exact qS | assumption) | refine qN rfl ?_ | exact qO rfl)) ⟨by rw [if_neg hc], hM, .refl hM.wf⟩)
  rw [if_pos hc]
  obtain ⟨j, rfl⟩ : ∃ j : Nat, a = .ofNat j := ⟨a.toNat, by simp; omega⟩
  have hj : j < n := by have := hc.2; simp at this; omega
  refine RP.p rfl (op_move (qT (by repeat (first | with_reducible (first | exact qS | assumption) | refine qN rfl ?_ | exact qO rfl))) ?_)
  refine RP.p rfl (op_bin (qT (by repeat (first | with_reducible (first | exact qS | assumption) | refine qN rfl ?_ | exact qO rfl))) (show ev _ _ = some (.int .i64 (.ofNat 0)) from rfl) (bin_neq_f rfl) ?_)
  refine RP.nil ?_
  refine Gives.else_ (qT (by repeat (first | with_reducible (first | exact qS | assumption) | refine qN rfl ?_ | exact qO rfl))) ?_
  refine Gives.skip ?_
  refine Gives.seq ?_
  refine Gives.seq ?_
  refine Gives.region [.p 0, .p 1, .e 2 [], .p 3] (by kernel_rfl) ?_
  refine RP.p rfl (op_move (qT (by repeat (first | with_reducible (first | exact qS | assumption) | refine qN rfl ?_ | exact qO rfl))) ?_)
  refine RP.p rfl (op_move (qT (by repeat (first | with_reducible (first | exact qS | assumption) | refine qN rfl ?_ | exact qO rfl))) ?_)
  refine RP.e rfl (op_calls (evs_cons (qT (by repeat (first | with_reducible (first | exact qS | assumption) | refine qN rfl ?_ | exact qO rfl))) (evs_cons (qT (by repeat (first | with_reducible (first | exact qS | assumption) | refine qN rfl ?_ | exact qO rfl))) evs_nil)) (by kernel_rfl) (mrepair_spec hS hL hM j hj) ?_)
  rintro v h' ⟨⟨r, hr, rfl⟩, hM', hF, cw, g5, g7⟩
  refine RP.p rfl (op_bin (qT (by repeat (first | with_reducible (first | exact qS | assumption) | refine qN rfl ?_ | exact qO rfl))) (show ev _ _ = some (.int .i64 (.ofNat 2)) from rfl) (bin_eql_f (by omega)) ?_)
  refine RP.nil ?_
  refine Gives.else_ (qT (by repeat (first | with_reducible (first | exact qS | assumption) | refine qN rfl ?_ | exact qO rfl))) ?_
  refine Gives.skip ?_
  obtain ⟨cm, cnt, g1, g2, g3, g4⟩ := hM'.m
  have hD : D j < 4294967296 := by obtain ⟨cw', k1, k2⟩ := hM'.w; obtain ⟨_, _, k3⟩ := k2 j hj; exact k3.1
  have hel := enc_lt (D j) hD
  refine Gives.seq ?_
  refine Gives.region [.p 0, .p 1, .p 2, .r 3, .p 4, .p 5, .r 6, .e 7 [], .p 8, .p 9, .p 10, .p 11, .p 12] (by kernel_rfl) ?_
  refine RP.p rfl (op_move (qT (by repeat (first | with_reducible (first | exact qS | assumption) | refine qN rfl ?_ | exact qO rfl))) ?_)
  refine RP.p rfl (op_nilCheck (qT (by repeat (first | with_reducible (first | exact qS | assumption) | refine qN rfl ?_ | exact qO rfl))) ?_)
  refine RP.p rfl (op_fieldAddr (off := 1) (qT (by repeat (first | with_reducible (first | exact qS | assumption) | refine qN rfl ?_ | exact qO rfl))) (by kernel_rfl) ?_)
  refine RP.r rfl (op_load (qT (by repeat (first | with_reducible (first | exact qS | assumption) | refine qN rfl ?_ | exact qO rfl))) (loadA_cell (by kernel_rfl) g1 (by omega) g3) ?_)
  refine RP.p rfl (op_move (qT (by repeat (first | with_reducible (first | exact qS | assumption) | refine qN rfl ?_ | exact qO rfl))) ?_)
  refine RP.p rfl (op_indexAddr (qT (by repeat (first | with_reducible (first | exact qS | assumption) | refine qN rfl ?_ | exact qO rfl))) (qT (by repeat (first | with_reducible (first | exact qS | assumption) | refine qN rfl ?_ | exact qO rfl))) Tryz.underlying67 (by kernel_rfl) hj (Nat.le_refl _) ?_)
  refine RP.r rfl (op_load (qT (by repeat (first | with_reducible (first | exact qS | assumption) | refine qN rfl ?_ | exact qO rfl))) (loadA_cell (by kernel_rfl) g5 (by omega) (at_off g7)) ?_)
  refine RP.e rfl (op_calls (evs_cons (qT (by repeat (first | with_reducible (first | exact qS | assumption) | refine qN rfl ?_ | exact qO rfl))) evs_nil) (by kernel_rfl) (decode_spec hS hL (enc (D j)) (by omega)) ?_)
  rintro v h'' ⟨rfl, rfl⟩
  rw [decN_clean hD]
  refine RP.p rfl (op_move (qT (by repeat (first | with_reducible (first | exact qS | assumption) | refine qN rfl ?_ | exact qO rfl))) ?_)
  refine RP.p rfl (op_extract (qT (by repeat (first | with_reducible (first | exact qS | assumption) | refine qN rfl ?_ | exact qO rfl))) rfl ?_)
  refine RP.p rfl (op_extract (qT (by repeat (first | with_reducible (first | exact qS | assumption) | refine qN rfl ?_ | exact qO rfl))) rfl ?_)
  refine RP.p rfl (op_assign (qT (by repeat (first | with_reducible (first | exact qS | assumption) | refine qN rfl ?_ | exact qO rfl))) ?_)
  refine RP.p rfl (op_assign (qT (by repeat (first | with_reducible (first | exact qS | assumption) | refine qN rfl ?_ | exact qO rfl))) ?_)
  refine RP.nil ?_
  refine Gives.seq ?_
  refine Gives.region [.p 0, .p 1, .p 2] (by kernel_rfl) ?_
  refine RP.p rfl (op_move (qT (by repeat (first | with_reducible (first | exact qS | assumption) | refine qN rfl ?_ | exact qO rfl))) ?_)
  refine RP.p rfl (op_assign (qT (by repeat (first | with_reducible (first | exact qS | assumption) | refine qN rfl ?_ | exact qO rfl))) ?_)
  refine RP.p rfl (op_assign (show ev _ _ = some (.int .i64 (.ofNat 0)) from rfl) ?_)
  refine RP.nil ?_
  exact Gives.ret0 (RS.two (by repeat (first | with_reducible (first | exact qS | assumption) | refine qN rfl ?_ | exact qO rfl)) (by repeat (first | with_reducible (first | exact qS | assumption) | refine qN rfl ?_ | exact qO rfl)) ⟨by rw [if_pos hc]; rfl, hM', hF⟩)
def updN (D : Nat → Nat) (a v : Nat) : Nat → Nat := fun i => if i = a then v else D i
theorem updN_same {D : Nat → Nat} {a v : Nat} : updN D a v a = v := by simp [updN]
theorem updN_ne {D : Nat → Nat} {a v i : Nat} (h : i ≠ a) : updN D a v i = D i := by simp [updN, h]
theorem mwrite_spec {d : Nat} (hS : SOk S) (hL : 100 ≤ L) {bm bw n : Nat} {D : Nat → Nat} {Z : Nat → Prop} (hM : Mem h bm bw n D Z) (a m : Nat) (ha : a < n) (hm : m < 4294967296) :
    CS Tryz.prog X S L (d + 4) 8 [.ptr bm 0, .int .i64 (.ofNat a), .int .u32 (.ofNat m)] h (fun v h' => v = .int .i64 (.ofNat 0) ∧ Mem h' bm bw n (updN D a m) Z ∧ Fr (two bm bw) h h') := by
  obtain ⟨cm, cnt, g1, g2, g3, g4⟩ := hM.m
  obtain ⟨cw, g5, g6⟩ := hM.w
  have hc : 0 ≤ Int.ofNat a ∧ Int.ofNat a < n := ⟨by simp, by simpa using ha⟩
  refine CS.of (rs := [.tmp 6]) (hS.none _ (by decide) (by decide)) Tryz.func8 rfl rfl ?_
  refine Gives.seq ?_
  refine Gives.region [.p 0] (by kernel_rfl) ?_
  refine RP.p rfl (op_assign (show ev _ _ = some (.int .i64 (.ofNat 0)) from rfl) ?_)
  refine RP.nil ?_
  refine Gives.seq ?_
  refine Gives.region [.p 0, .p 1, .e 2 [], .p 3] (by kernel_rfl) ?_
  refine RP.p rfl (op_move (qT (by repeat (first | with_reducible (first | exact qS | assumption) | refine qN rfl ?_ | exact qO rfl))) ?_)
  refine RP.p rfl (op_move (qT (by repeat (first | with_reducible (first | exact qS | assumption) | refine qN rfl ?_ | exact qO rfl))) ?_)
  refine RP.e rfl (op_calls (evs_cons (qT (by repeat (first | with_reducible (first | exact qS | assumption) | refine qN rfl ?_ | exact qO rfl))) (evs_cons (qT (by repeat (first | with_reducible (first | exact qS | assumption) | refine qN rfl ?_ | exact qO rfl))) evs_nil)) (by kernel_rfl) (mcheck_spec hS hM _) ?_)
  rintro v h' ⟨rfl, rfl⟩
  rw [if_pos hc]
  refine RP.p rfl (op_assign (qT (by repeat (first | with_reducible (first | exact qS | assumption) | refine qN rfl ?_ | exact qO rfl))) ?_)
  refine RP.nil ?_
  refine Gives.seq ?_
  refine Gives.seq ?_
  refine Gives.region [.p 0, .p 1] (by kernel_rfl) ?_
  refine RP.p rfl (op_move (qT (by repeat (first | with_reducible (first | exact qS | assumption) | refine qN rfl ?_ | exact qO rfl))) ?_)
  refine RP.p rfl (op_bin (qT (by repeat (first | with_reducible (first | exact qS | assumption) | refine qN rfl ?_ | exact qO rfl))) (show ev _ _ = some (.int .i64 (.ofNat 0)) from rfl) (bin_eql_t rfl) ?_)
  refine RP.nil ?_
  refine Gives.then_ (qT (by repeat (first | with_reducible (first | exact qS | assumption) | refine qN rfl ?_ | exact qO rfl))) ?_
  refine Gives.region [.p 0, .p 1, .p 2, .r 3, .p 4, .p 5, .e 6 [3], .p 7, .e 8 []] (by kernel_rfl) ?_
  refine RP.p rfl (op_move (qT (by repeat (first | with_reducible (first | exact qS | assumption) | refine qN rfl ?_ | exact qO rfl))) ?_)
  refine RP.p rfl (op_nilCheck (qT (by repeat (first | with_reducible (first | exact qS | assumption) | refine qN rfl ?_ | exact qO rfl))) ?_)
  refine RP.p rfl (op_fieldAddr (off := 1) (qT (by repeat (first | with_reducible (first | exact qS | assumption) | refine qN rfl ?_ | exact qO rfl))) (by kernel_rfl) ?_)
  refine RP.r rfl (op_load (qT (by repeat (first | with_reducible (first | exact qS | assumption) | refine qN rfl ?_ | exact qO rfl))) (loadA_cell (by kernel_rfl) g1 (by omega) g3) ?_)
  refine RP.p rfl (op_move (qT (by repeat (first | with_reducible (first | exact qS | assumption) | refine qN rfl ?_ | exact qO rfl))) ?_)
  refine RP.p rfl (op_move (qT (by repeat (first | with_reducible (first | exact qS | assumption) | refine qN rfl ?_ | exact qO rfl))) ?_)
  refine RP.e rfl (op_callsR (evs_cons (qT (by repeat (first | with_reducible (first | exact qS | assumption) | refine qN rfl ?_ | exact qO rfl))) evs_nil) (by kernel_rfl) (enc_spec hS hL m hm) ?_ ?_)
  · rintro v h' ⟨rfl, rfl⟩
    exact all_one (chkR_load rfl (qT (by repeat (first | with_reducible (first | exact qS | assumption) | refine qN rfl ?_ | exact qO rfl))) (loadA_cell (by kernel_rfl) g1 (by omega) g3) (by repeat (first | with_reducible (first | exact qS | assumption) | refine qN rfl ?_ | exact qO rfl)) (by simp [AV.same, AV.same0]))
  rintro v h' ⟨rfl, rfl⟩
  refine RP.p rfl (op_indexAddr (qT (by repeat (first | with_reducible (first | exact qS | assumption) | refine qN rfl ?_ | exact qO rfl))) (qT (by repeat (first | with_reducible (first | exact qS | assumption) | refine qN rfl ?_ | exact qO rfl))) Tryz.underlying67 (by kernel_rfl) ha (Nat.le_refl _) ?_)
  refine RP.e rfl (op_store (qT (by repeat (first | with_reducible (first | exact qS | assumption) | refine qN rfl ?_ | exact qO rfl))) (qT (by repeat (first | with_reducible (first | exact qS | assumption) | refine qN rfl ?_ | exact qO rfl))) g5 (by kernel_rfl) rfl (by omega) ?_)
  refine RP.nil ?_
  refine Gives.seq ?_
  refine Gives.region [.p 0, .p 1] (by kernel_rfl) ?_
  refine RP.p rfl (op_move (qT (by repeat (first | with_reducible (first | exact qS | assumption) | refine qN rfl ?_ | exact qO rfl))) ?_)
  refine RP.p rfl (op_assign (qT (by repeat (first | with_reducible (first | exact qS | assumption) | refine qN rfl ?_ | exact qO rfl))) ?_)
  refine RP.nil ?_
  have f1 : Fr (two bm bw) h (h.set bw (.cells n (cw.put (0 + a * 1) (.int .u64 (.ofNat (enc m)))))) := (Fr.refl hM.wf).set _ (hM.wf.lt g5) fun _ => .inr rfl
  refine Gives.ret0 (RS.one (by repeat (first | with_reducible (first | exact qS | assumption) | refine qN rfl ?_ | exact qO rfl)) ⟨rfl, ?_, f1⟩)
  rw [Nat.zero_add, Nat.mul_one]
  exact hM.setw g5 a _ (by rw [updN_same]; exact .clean hm) fun i hi he => by rw [updN_ne he]; exact g6 i hi
theorem mflip_spec {d : Nat} (hS : SOk S) {bm bw n : Nat} {D : Nat → Nat} {Z : Nat → Prop} (hM : Mem h bm bw n D Z) (a b : Int) (hZ : 0 ≤ a → ¬ Z a.toNat) :
    CS Tryz.prog X S L (d + 3) 12 [.ptr bm 0, .int .i64 a, .int .i64 b] h (fun v h' => (∃ r : Nat, v = .int .i64 (.ofNat r)) ∧ Mem h' bm bw n D (fun i => Z i ∨ (0 ≤ a ∧ i = a.toNat)) ∧ Fr (two bm bw) h h') := by
  have wid : ∀ {h' : H} {Z' : Nat → Prop}, (∀ i, Z i → Z' i) → Mem h' bm bw n D Z → Mem h' bm bw n D Z' := fun hz m => by
    obtain ⟨cw, k1, k2⟩ := m.w
    refine ⟨m.wf, m.ne, m.le, m.m, ⟨cw, k1, fun i hi => ?_⟩⟩
    obtain ⟨w, k3, k4, k5⟩ := k2 i hi
    exact ⟨w, k3, k4, k5.imp id fun ⟨k6, k7⟩ => ⟨hz i k6, k7⟩⟩
  obtain ⟨cm, cnt, g1, g2, g3, g4⟩ := hM.m
  obtain ⟨cw, g5, g6⟩ := hM.w
  refine CS.of (rs := [.tmp 6]) (hS.none _ (by decide) (by decide)) Tryz.func12 rfl rfl ?_
  refine Gives.seq ?_
  refine Gives.region [.p 0] (by kernel_rfl) ?_
  refine RP.p rfl (op_assign (show ev _ _ = some (.int .i64 (.ofNat 0)) from rfl) ?_)
  refine RP.nil ?_
  refine Gives.seq ?_
  refine Gives.seq ?_
  refine Gives.region [.p 0, .p 1, .e 2 [], .p 3] (by kernel_rfl) ?_
  refine RP.p rfl (op_move (qT (by repeat (first | with_reducible (first | exact qS | assumption) | refine qN rfl ?_ | exact qO rfl))) ?_)
  refine RP.p rfl (op_move (qT (by repeat (first | with_reducible (first | exact qS | assumption) | refine qN rfl ?_ | exact qO rfl))) ?_)
  refine RP.e rfl (op_calls (evs_cons (qT (by repeat (first | with_reducible (first | exact qS | assumption) | refine qN rfl ?_ | exact qO rfl))) (evs_cons (qT (by repeat (first | with_reducible (first | exact qS | assumption) | refine qN rfl ?_ | exact qO rfl))) evs_nil)) (by kernel_rfl) (mcheck_spec hS hM a) ?_)
  rintro v h' ⟨rfl, rfl⟩
  refine RP.p rfl (op_assign (qT (by repeat (first | with_reducible (first | exact qS | assumption) | refine qN rfl ?_ | exact qO rfl))) ?_)
  refine RP.nil ?_
  refine Gives.seq ?_
  refine Gives.region [.p 0, .p 1] (by kernel_rfl) ?_
  by_cases hc : 0 ≤ a ∧ a < n
  case neg =>
    rw [if_neg hc]
    refine RP.p rfl (op_move (qT (by repeat (first | with_reducible (first | exact qS | assumption) | refine qN rfl ?_ | exact qO rfl))) ?_)
    refine RP.p rfl (op_bin (qT (by repeat (first | with_reducible (first | exact qS | assumption) | refine qN rfl ?_ | exact qO rfl))) (show ev _ _ = some (.int .i64 (.ofNat 0)) from rfl) (bin_neq_t (by decide)) ?_)
    refine RP.nil ?_
    refine Gives.then_ (qT (by repeat (first | with_reducible (first | exact qS | assumption) | refine qN rfl ?_ | exact qO rfl))) ?_
    refine Gives.seq ?_
    refine Gives.region [.p 0, .p 1] (by kernel_rfl) ?_
    refine RP.p rfl (op_move (qT (by repeat (first | with_reducible (first | exact qS | assumption) | refine qN rfl ?_ | exact qO rfl))) ?_)
    refine RP.p rfl (op_assign (qT (by repeat (first | with_reducible (first | exact qS | assumption) | refine qN rfl ?_ | exact qO rfl))) ?_)
    refine RP.nil ?_
    exact Gives.ret0 (RS.one (by repeat (first | with_reducible (first | exact qS | assumption) | refine qN rfl ?_ | exact qO rfl)) ⟨⟨1, rfl⟩, wid (fun i hi => .inl hi) hM, .refl hM.wf⟩)
  rw [if_pos hc]
  obtain ⟨j, rfl⟩ : ∃ j : Nat, a = .ofNat j := ⟨a.toNat, by simp; omega⟩
  have hj : j < n := by have := hc.2; simp at this; omega
  have hZj : ¬ Z j := hZ hc.1
  refine RP.p rfl (op_move (qT (by repeat (first | with_reducible (first | exact qS | assumption) | refine qN rfl ?_ | exact qO rfl))) ?_)
  refine RP.p rfl (op_bin (qT (by repeat (first | with_reducible (first | exact qS | assumption) | refine qN rfl ?_ | exact qO rfl))) (show ev _ _ = some (.int .i64 (.ofNat 0)) from rfl) (bin_neq_f rfl) ?_)
  refine RP.nil ?_
  refine Gives.else_ (qT (by repeat (first | with_reducible (first | exact qS | assumption) | refine qN rfl ?_ | exact qO rfl))) ?_
  refine Gives.skip ?_
  refine Gives.seq ?_
  refine Gives.seq ?_
  refine Gives.region [.p 0, .p 1, .p 2, .p 3, .p 4, .p 5] (by kernel_rfl) ?_
  by_cases hb0 : b < 0
  · have e1 : decide (b < Int.ofNat 0) = true := by simp; omega
    refine RP.p rfl (op_move (qT (by repeat (first | with_reducible (first | exact qS | assumption) | refine qN rfl ?_ | exact qO rfl))) ?_)
    refine RP.p rfl (op_bin (qT (by repeat (first | with_reducible (first | exact qS | assumption) | refine qN rfl ?_ | exact qO rfl))) (show ev _ _ = some (.int .i64 (.ofNat 0)) from rfl) bin_lss ?_)
    rw [e1]
    refine RP.p rfl (op_move (qT (by repeat (first | with_reducible (first | exact qS | assumption) | refine qN rfl ?_ | exact qO rfl))) ?_)
    refine RP.p rfl (OpP.offT rfl rfl (by repeat (first | with_reducible (first | exact qS | assumption) | refine qN rfl ?_ | exact qO rfl)) ?_)
    refine RP.p rfl (OpP.offT rfl rfl (by repeat (first | with_reducible (first | exact qS | assumption) | refine qN rfl ?_ | exact qO rfl)) ?_)
    refine RP.p rfl (op_pick_t (qT (by repeat (first | with_reducible (first | exact qS | assumption) | refine qN rfl ?_ | exact qO rfl))) rfl ?_)
    refine RP.nil ?_
    refine Gives.then_ (qT (by repeat (first | with_reducible (first | exact qS | assumption) | refine qN rfl ?_ | exact qO rfl))) ?_
    refine Gives.seq ?_
    refine Gives.region [.p 0] (by kernel_rfl) ?_
    refine RP.p rfl (op_assign (show ev _ _ = some (.int .i64 (.ofNat 1)) from rfl) ?_)
    refine RP.nil ?_
    exact Gives.ret0 (RS.one (by repeat (first | with_reducible (first | exact qS | assumption) | refine qN rfl ?_ | exact qO rfl)) ⟨⟨1, rfl⟩, wid (fun i hi => .inl hi) hM, .refl hM.wf⟩)
  have e1 : decide (b < Int.ofNat 0) = false := by simp; omega
  obtain ⟨s, rfl⟩ : ∃ s : Nat, b = .ofNat s := ⟨b.toNat, by simp; omega⟩
  refine RP.p rfl (op_move (qT (by repeat (first | with_reducible (first | exact qS | assumption) | refine qN rfl ?_ | exact qO rfl))) ?_)
  refine RP.p rfl (op_bin (qT (by repeat (first | with_reducible (first | exact qS | assumption) | refine qN rfl ?_ | exact qO rfl))) (show ev _ _ = some (.int .i64 (.ofNat 0)) from rfl) bin_lss ?_)
  rw [e1]
  refine RP.p rfl (op_move (qT (by repeat (first | with_reducible (first | exact qS | assumption) | refine qN rfl ?_ | exact qO rfl))) ?_)
  refine RP.p rfl (OpP.on' rfl rfl (by repeat (first | with_reducible (first | exact qS | assumption) | refine qN rfl ?_ | exact qO rfl)) (op_move (qT (by repeat (first | with_reducible (first | exact qS | assumption) | refine qN rfl ?_ | exact qO rfl))) ?_))
  refine RP.p rfl (OpP.on' rfl rfl (by repeat (first | with_reducible (first | exact qS | assumption) | refine qN rfl ?_ | exact qO rfl)) (op_bin (qT (by repeat (first | with_reducible (first | exact qS | assumption) | refine qN rfl ?_ | exact qO rfl))) (show ev _ _ = some (.int .i64 (.ofNat 39)) from rfl) bin_geqN ?_))
  refine RP.p rfl (op_pick_f (qT (by repeat (first | with_reducible (first | exact qS | assumption) | refine qN rfl ?_ | exact qO rfl))) (qT (by repeat (first | with_reducible (first | exact qS | assumption) | refine qN rfl ?_ | exact qO rfl))) ?_)
  refine RP.nil ?_
  refine Gives.cond (qT (by repeat (first | with_reducible (first | exact qS | assumption) | refine qN rfl ?_ | exact qO rfl))) (fun hb => ?_) (fun hb => ?_)
  · refine Gives.seq ?_
    refine Gives.region [.p 0] (by kernel_rfl) ?_
    refine RP.p rfl (op_assign (show ev _ _ = some (.int .i64 (.ofNat 1)) from rfl) ?_)
    refine RP.nil ?_
    exact Gives.ret0 (RS.one (by repeat (first | with_reducible (first | exact qS | assumption) | refine qN rfl ?_ | exact qO rfl)) ⟨⟨1, rfl⟩, wid (fun i hi => .inl hi) hM, .refl hM.wf⟩)
  have hs : s < 39 := by have := of_decide_eq_false hb; omega
  obtain ⟨w, g7, g8⟩ := g6 j hj
  have hwl := g8.lt
  obtain ⟨hm, hw⟩ := g8
  have hw : w = enc (D j) := by rcases hw with hw | ⟨hz, _⟩; · exact hw
                                · exact absurd hz hZj
  subst hw
  refine Gives.skip ?_
  refine Gives.seq ?_
  refine Gives.region [.p 0, .p 1, .p 2, .r 3, .p 4, .p 5, .p 6, .p 7, .r 8, .p 9, .p 10, .r 11, .p 12, .e 13 [3], .p 14, .e 15 []] (by kernel_rfl) ?_
  refine RP.p rfl (op_move (qT (by repeat (first | with_reducible (first | exact qS | assumption) | refine qN rfl ?_ | exact qO rfl))) ?_)
  refine RP.p rfl (op_nilCheck (qT (by repeat (first | with_reducible (first | exact qS | assumption) | refine qN rfl ?_ | exact qO rfl))) ?_)
  refine RP.p rfl (op_fieldAddr (off := 1) (qT (by repeat (first | with_reducible (first | exact qS | assumption) | refine qN rfl ?_ | exact qO rfl))) (by kernel_rfl) ?_)
  refine RP.r rfl (op_load (qT (by repeat (first | with_reducible (first | exact qS | assumption) | refine qN rfl ?_ | exact qO rfl))) (loadA_cell (by kernel_rfl) g1 (by omega) g3) ?_)
  refine RP.p rfl (op_move (qT (by repeat (first | with_reducible (first | exact qS | assumption) | refine qN rfl ?_ | exact qO rfl))) ?_)
  refine RP.p rfl (op_move (qT (by repeat (first | with_reducible (first | exact qS | assumption) | refine qN rfl ?_ | exact qO rfl))) ?_)
  refine RP.p rfl (op_nilCheck (qT (by repeat (first | with_reducible (first | exact qS | assumption) | refine qN rfl ?_ | exact qO rfl))) ?_)
  refine RP.p rfl (op_fieldAddr (off := 1) (qT (by repeat (first | with_reducible (first | exact qS | assumption) | refine qN rfl ?_ | exact qO rfl))) (by kernel_rfl) ?_)
  refine RP.r rfl (op_load (qT (by repeat (first | with_reducible (first | exact qS | assumption) | refine qN rfl ?_ | exact qO rfl))) (loadA_cell (by kernel_rfl) g1 (by omega) g3) ?_)
  refine RP.p rfl (op_move (qT (by repeat (first | with_reducible (first | exact qS | assumption) | refine qN rfl ?_ | exact qO rfl))) ?_)
  refine RP.p rfl (op_indexAddr (qT (by repeat (first | with_reducible (first | exact qS | assumption) | refine qN rfl ?_ | exact qO rfl))) (qT (by repeat (first | with_reducible (first | exact qS | assumption) | refine qN rfl ?_ | exact qO rfl))) Tryz.underlying67 (by kernel_rfl) hj (Nat.le_refl _) ?_)
  refine RP.r rfl (op_load (qT (by repeat (first | with_reducible (first | exact qS | assumption) | refine qN rfl ?_ | exact qO rfl))) (loadA_cell (by kernel_rfl) g5 (by omega) (at_off g7)) ?_)
  refine RP.p rfl (op_move (qT (by repeat (first | with_reducible (first | exact qS | assumption) | refine qN rfl ?_ | exact qO rfl))) ?_)
  refine RP.e rfl (op_callsR (evs_cons (qT (by repeat (first | with_reducible (first | exact qS | assumption) | refine qN rfl ?_ | exact qO rfl))) (evs_cons (qT (by repeat (first | with_reducible (first | exact qS | assumption) | refine qN rfl ?_ | exact qO rfl))) evs_nil)) (by kernel_rfl) (flip_spec hS _ s hwl hs) ?_ ?_)
  · rintro v h' ⟨rfl, rfl⟩
    exact all_one (chkR_load rfl (qT (by repeat (first | with_reducible (first | exact qS | assumption) | refine qN rfl ?_ | exact qO rfl))) (loadA_cell (by kernel_rfl) g1 (by omega) g3) (by repeat (first | with_reducible (first | exact qS | assumption) | refine qN rfl ?_ | exact qO rfl)) (by simp [AV.same, AV.same0]))
  rintro v h' ⟨rfl, rfl⟩
  refine RP.p rfl (op_indexAddr (qT (by repeat (first | with_reducible (first | exact qS | assumption) | refine qN rfl ?_ | exact qO rfl))) (qT (by repeat (first | with_reducible (first | exact qS | assumption) | refine qN rfl ?_ | exact qO rfl))) Tryz.underlying67 (by kernel_rfl) hj (Nat.le_refl _) ?_)
  refine RP.e rfl (op_store (qT (by repeat (first | with_reducible (first | exact qS | assumption) | refine qN rfl ?_ | exact qO rfl))) (qT (by repeat (first | with_reducible (first | exact qS | assumption) | refine qN rfl ?_ | exact qO rfl))) g5 (by kernel_rfl) rfl (by omega) ?_)
  refine RP.nil ?_
  refine Gives.seq ?_
  refine Gives.region [.p 0] (by kernel_rfl) ?_
  refine RP.p rfl (op_assign (show ev _ _ = some (.int .i64 (.ofNat 0)) from rfl) ?_)
  refine RP.nil ?_
  have f1 : Fr (two bm bw) h (h.set bw (.cells n (cw.put (0 + j * 1) (.int .u64 (.ofNat (enc (D j) ^^^ 2 ^ s)))))) := (Fr.refl hM.wf).set _ (hM.wf.lt g5) fun _ => .inr rfl
  refine Gives.ret0 (RS.one (by repeat (first | with_reducible (first | exact qS | assumption) | refine qN rfl ?_ | exact qO rfl)) ⟨⟨0, rfl⟩, ?_, f1⟩)
  rw [Nat.zero_add, Nat.mul_one]
  refine hM.setw g5 j _ ⟨hm, .inr ⟨.inr ⟨by simp, rfl⟩, s, hs, rfl⟩⟩ fun i hi he => ?_
  obtain ⟨u, k1, k2, k3⟩ := g6 i hi
  exact ⟨u, k1, k2, k3.imp id fun ⟨k4, k5⟩ => ⟨.inl k4, k5⟩⟩
end Go.Abs
