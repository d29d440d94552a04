/- Sequence numbers: Valid, Add, Distance at 8 bits. No condition. -/
import Derived.Test.YtkihpcjfhilgcaaGreatU01
namespace Go.Abs
open Go.Proofs
section
variable {P : Program} {X : Ext0} {call : CallA} {L n : Nat} {F : Fm} {h : H} {K : Fm → H → Prop} {ops : Array Oper}
variable {ty : TypeId} {pos : String} {af : Array Edge} {d : Nat} {t : TypeId} {x : Operand} {k : IntKind}
theorem op_negI {q : Int} (hx : ev F x = some (.int k q)) (hk : K (F.put d (.int k (k.wrap (0 - q)))) h) : OpP P ops ⟨some d, .unOp .neg t x, ty, pos, af, none⟩ F h K :=
  .val (by simp only [pop, hx, scal]; rfl) hk
theorem op_convI {q : Int} {src dst : TypeId} {k' : IntKind} {u : TypeDesc} (hx : ev F x = some (.int k' q)) (hs : P.underlying src = some u) (hd : P.underlying dst = some (.int k)) (hk : K (F.put d (.int k (k.wrap q))) h) :
    OpP P ops ⟨some d, .convert src dst x, ty, pos, af, none⟩ F h K :=
  .val (by simp only [pop, hx, convA, hs, hd]; rfl) hk
end
theorem wrap_u64 (z : Int) : IntKind.u64.wrap z = Int.ofNat (z % 18446744073709551616).toNat := by
  have h1 : IntKind.u64.wrap z = z % 18446744073709551616 := by simp [IntKind.wrap, IntKind.bits, IntKind.signed]
  rw [h1]
  have h2 : 0 ≤ z % 18446744073709551616 := Int.emod_nonneg _ (by decide)
  exact (Int.toNat_of_nonneg h2).symm
theorem wrap_neg {a : Nat} (ha : a < 256) : IntKind.i64.wrap (0 - Int.ofNat a) = -(Int.ofNat a) := by
  have h0 : Int.ofNat a = (a : Int) := rfl
  rw [h0]
  simp [IntKind.wrap, IntKind.bits, IntKind.signed]
  omega
variable {X : Ext0} {S : Sums} {L : Nat} {h : H}
theorem svalid_spec {d : Nat} (hS : SOk S) {a : Nat} (ha : a < 256) : CS Tryz.prog X S L (d + 1) 79 [.int .i64 (.ofNat a), .int .i64 (.ofNat 8)] h (fun v h' => v = .bool true ∧ h = h') := by
  refine CS.of (rs := [.tmp 4]) (hS.none _ (by decide) (by decide)) Tryz.func79 rfl rfl ?_
  refine Gives.seq ?_
  refine Gives.region [.p 0] (by kernel_rfl) ?_
  refine RP.p rfl (op_assign rfl ?_)
  refine RP.nil ?_
  refine Gives.seq ?_
  refine Gives.region [.p 0, .p 1, .p 2, .p 3, .p 4, .p 5, .p 6, .p 7, .p 8, .p 9, .p 10, .p 11, .p 12, .p 13, .p 14, .p 15, .p 16] (by kernel_rfl) ?_
  refine pM rfl rfl ?_
  refine RP.p rfl (op_bin (qT rfl) (show ev _ _ = some (.int .i64 (.ofNat 1)) from rfl) (bin_geq_t (by omega)) ?_)
  refine pM rfl rfl ?_
  refine RP.p rfl (OpP.on' rfl rfl rfl (op_move (qT rfl) ?_))
  refine RP.p rfl (OpP.on' rfl rfl rfl (op_bin (qT rfl) (show ev _ _ = some (.int .i64 (.ofNat 32)) from rfl) (bin_leq_t (by omega)) ?_))
  refine RP.p rfl (op_pick_t (qT rfl) (qT rfl) ?_)
  refine pM rfl rfl ?_
  refine RP.p rfl (OpP.on' rfl rfl rfl (op_move (qT rfl) ?_))
  refine RP.p rfl (OpP.on' rfl rfl rfl (op_bin (qT rfl) (show ev _ _ = some (.int .i64 (.ofNat 0)) from rfl) (bin_geq_t (by omega)) ?_))
  refine RP.p rfl (op_pick_t (qT rfl) (qT rfl) ?_)
  refine pM rfl rfl ?_
  refine RP.p rfl (OpP.on' rfl rfl rfl (op_move (qT rfl) ?_))
  refine RP.p rfl (OpP.on' rfl rfl rfl (op_move (qT rfl) ?_))
  refine RP.p rfl (OpP.on' rfl rfl rfl (op_bin (show ev _ _ = some (.int .i64 (.ofNat 1)) from rfl) (qT rfl) (bin_shl (by show _ ≤ _; decide) (by decide)) ?_))
  refine RP.p rfl (OpP.on' rfl rfl rfl (op_bin (qT rfl) (qT rfl) (bin_lss_t (by omega)) ?_))
  refine RP.p rfl (op_pick_t (qT rfl) (qT rfl) ?_)
  refine pA rfl rfl ?_
  refine RP.nil ?_
  exact Gives.ret0 (RS.one rfl ⟨rfl, rfl⟩)
theorem sadd_spec {d : Nat} (hS : SOk S) {a : Nat} (ha : a < 256) (q : Int) : CS Tryz.prog X S L (d + 2) 78 [.int .i64 (.ofNat a), .int .i64 q, .int .i64 (.ofNat 8)] h (fun v h' => v = .int .i64 (.ofNat (((a : Int) + q) % 256).toNat) ∧ h = h') := by
  refine CS.of (rs := [.tmp 6]) (hS.none _ (by decide) (by decide)) Tryz.func78 rfl rfl ?_
  refine Gives.seq ?_
  refine Gives.region [.p 0] (by kernel_rfl) ?_
  refine RP.p rfl (op_assign (show ev _ _ = some (.int .i64 (.ofNat 0)) from rfl) ?_)
  refine RP.nil ?_
  refine Gives.seq ?_
  refine Gives.seq ?_
  refine Gives.region [.p 0, .p 1, .e 2 [], .p 3] (by kernel_rfl) ?_
  refine pM rfl rfl ?_
  refine pM rfl rfl ?_
  refine RP.e rfl (op_calls (evs_cons (qT rfl) (evs_cons (qT rfl) evs_nil)) (by kernel_rfl) (svalid_spec hS ha) ?_)
  rintro v h' ⟨rfl, rfl⟩
  refine RP.p rfl (op_notT (qT rfl) ?_)
  refine RP.nil ?_
  refine Gives.else_ (qT rfl) (Gives.skip ?_)
  refine Gives.seq ?_
  refine Gives.region [.p 0, .p 1, .p 2, .p 3, .p 4, .p 5, .p 6, .p 7, .p 8, .p 9] (by kernel_rfl) ?_
  refine pM rfl rfl ?_
  refine RP.p rfl (op_conv (qT rfl) Tryz.underlying3 Tryz.underlying70 (by have e : topK .u64 = 18446744073709551616 := rfl; omega) ?_)
  refine pM rfl rfl ?_
  refine RP.p rfl (op_convI (qT rfl) Tryz.underlying3 Tryz.underlying70 ?_)
  refine RP.p rfl (op_bin (qT rfl) (qT rfl) bin_addI ?_)
  refine pM rfl rfl ?_
  refine RP.p rfl (op_bin (show ev _ _ = some (.int .u64 (.ofNat 1)) from rfl) (qT rfl) (bin_shl (by show _ ≤ _; decide) (by decide)) ?_)
  rw [wrap_u64 (_ + _)]
  refine RP.p rfl (op_bin (qT rfl) (qT rfl) (bin_rem (by decide)) ?_)
  refine RP.p rfl (op_conv (qT rfl) Tryz.underlying70 Tryz.underlying3 (by have e1 : topK .i64 = 9223372036854775808 := rfl; have e2 : topK .u32 = 4294967296 := rfl; have e3 : topK .u64 = 18446744073709551616 := rfl; have e4 : topK .u8 = 256 := rfl; have e5 : topK .u16 = 65536 := rfl; omega) ?_)
  refine pA rfl rfl ?_
  refine RP.nil ?_
  refine Gives.ret0 (RS.one rfl ⟨?_, rfl⟩)
  rw [wrap_u64]
  have e0 : Int.ofNat a = (a : Int) := rfl
  congr 2
  have e1 : ∀ n : Nat, Int.ofNat n = (n : Int) := fun _ => rfl
  rw [e1, e1]
  omega
theorem dist_spec {d : Nat} (hS : SOk S) {a b : Nat} (ha : a < 256) (hb : b < 256) : CS Tryz.prog X S L (d + 3) 52 [.int .i64 (.ofNat a), .int .i64 (.ofNat b), .int .i64 (.ofNat 8)] h (fun v h' => v = .int .i64 (.ofNat ((b + 256 - a) % 256)) ∧ h = h') := by
  refine CS.of (rs := [.tmp 6]) (hS.none _ (by decide) (by decide)) Tryz.func52 rfl rfl ?_
  refine Gives.seq ?_
  refine Gives.region [.p 0] (by kernel_rfl) ?_
  refine RP.p rfl (op_assign (show ev _ _ = some (.int .i64 (.ofNat 0)) from rfl) ?_)
  refine RP.nil ?_
  refine Gives.seq ?_
  refine Gives.seq ?_
  refine Gives.region [.p 0, .p 1, .e 2 [], .p 3, .p 4, .p 5, .p 6, .e 7 [], .p 8, .p 9] (by kernel_rfl) ?_
  refine pM rfl rfl ?_
  refine pM rfl rfl ?_
  refine RP.e rfl (op_calls (evs_cons (qT rfl) (evs_cons (qT rfl) evs_nil)) (by kernel_rfl) (svalid_spec hS ha) ?_)
  rintro v h' ⟨rfl, rfl⟩
  refine RP.p rfl (op_notT (qT rfl) ?_)
  refine pM rfl rfl ?_
  refine RP.p rfl (OpP.on' rfl rfl rfl (op_move (qT rfl) ?_))
  refine RP.p rfl (OpP.on' rfl rfl rfl (op_move (qT rfl) ?_))
  refine RP.e rfl (OpE.on' rfl rfl rfl (op_calls (evs_cons (qT rfl) (evs_cons (qT rfl) evs_nil)) (by kernel_rfl) (svalid_spec hS hb) ?_))
  rintro v h' ⟨rfl, rfl⟩
  refine RP.p rfl (OpP.on' rfl rfl rfl (op_notT (qT rfl) ?_))
  refine RP.p rfl (op_pick_f (qT rfl) (qT rfl) ?_)
  refine RP.nil ?_
  refine Gives.else_ (qT rfl) (Gives.skip ?_)
  refine Gives.seq ?_
  refine Gives.region [.p 0, .p 1, .p 2, .p 3, .e 4 [], .p 5] (by kernel_rfl) ?_
  refine pM rfl rfl ?_
  refine pM rfl rfl ?_
  refine RP.p rfl (op_negI (qT rfl) ?_)
  refine pM rfl rfl ?_
  refine RP.e rfl (op_calls (evs_cons (qT rfl) (evs_cons (qT rfl) (evs_cons (qT rfl) evs_nil))) (by kernel_rfl) (sadd_spec hS hb _) ?_)
  rintro v h' ⟨rfl, rfl⟩
  refine pA rfl rfl ?_
  refine RP.nil ?_
  refine Gives.ret0 (RS.one rfl ⟨?_, rfl⟩)
  rw [wrap_neg ha]
  congr 2
  have e0 : Int.ofNat a = (a : Int) := rfl
  rw [e0]; omega
end Go.Abs
namespace Go.Abs
open Go.Proofs
section
variable {P : Program} {h h' h'' : H} {F : Fm} {t : TypeId} {x y : Operand} {k : IntKind}
theorem Fr.then {B B' : Nat → Prop} (a : Fr B h h') (b : Fr B' h' h'') (hB : ∀ c, B' c → B c ∨ h.next ≤ c) : Fr B h h'' :=
  ⟨b.wf, Nat.le_trans a.next b.next, fun c hc hn => (b.obj c (Nat.lt_of_lt_of_le hc a.next) fun e => (hB c e).elim hn fun g => absurd hc (by omega)).trans (a.obj c hc hn)⟩
theorem blk_same {id : Nat} {N : Fm → H → Prop} {B : Ex → Fm → H → Prop} (h1 : N F h) : blk id N B (.exit id) F h := by
  simp only [blk, Nat.beq_refl, cond_true]; exact h1
theorem blk_other {id j : Nat} {N : Fm → H → Prop} {B : Ex → Fm → H → Prop} (hj : Nat.beq j id = false) (h1 : B (.exit j) F h) : blk id N B (.exit j) F h := by
  simp only [blk, hj, cond_false]; exact h1
variable {p q : Int}
theorem bin_lssI_t (h1 : p < q) : binA P .lss t x y (.int k p) (.int k q) = some (.bool true) := by rw [bin_lss, decide_eq_true h1]
theorem bin_lssI_f (h1 : ¬ p < q) : binA P .lss t x y (.int k p) (.int k q) = some (.bool false) := by rw [bin_lss, decide_eq_false h1]
theorem bin_leqI_t (h1 : p ≤ q) : binA P .leq t x y (.int k p) (.int k q) = some (.bool true) := by rw [bin_leq, decide_eq_true h1]
theorem bin_leqI_f (h1 : ¬ p ≤ q) : binA P .leq t x y (.int k p) (.int k q) = some (.bool false) := by rw [bin_leq, decide_eq_false h1]
theorem bin_gtrI_t (h1 : q < p) : binA P .gtr t x y (.int k p) (.int k q) = some (.bool true) := by rw [bin_gtr, decide_eq_true h1]
theorem bin_gtrI_f (h1 : ¬ q < p) : binA P .gtr t x y (.int k p) (.int k q) = some (.bool false) := by rw [bin_gtr, decide_eq_false h1]
theorem bin_geqI_t (h1 : q ≤ p) : binA P .geq t x y (.int k p) (.int k q) = some (.bool true) := by rw [bin_geq, decide_eq_true h1]
theorem bin_geqI_f (h1 : ¬ q ≤ p) : binA P .geq t x y (.int k p) (.int k q) = some (.bool false) := by rw [bin_geq, decide_eq_false h1]
theorem bin_eqlI_t (h1 : p = q) : binA P .eql t x y (.int k p) (.int k q) = some (.bool true) := by rw [bin_eql, decide_eq_true h1]
theorem bin_eqlI_f (h1 : ¬ p = q) : binA P .eql t x y (.int k p) (.int k q) = some (.bool false) := by rw [bin_eql, decide_eq_false h1]
theorem bin_neqI_t (h1 : ¬ p = q) : binA P .neq t x y (.int k p) (.int k q) = some (.bool true) := by rw [bin_neq, decide_eq_true h1]
theorem bin_neqI_f (h1 : p = q) : binA P .neq t x y (.int k p) (.int k q) = some (.bool false) := by rw [bin_neq, h1]; simp
end
variable {X : Ext0} {S : Sums} {L : Nat} {h0 : H}
abbrev nI (n : Nat) : AV := .int .i64 (.ofNat n)
def FarmL (cr wi ch nx : Nat) (lo wa re : Bool) (by_ : Nat) : List AV := [nI cr, nI wi, nI ch, .bool lo, .bool wa, .bool re, nI by_, nI nx]
theorem none_spec {d : Nat} (hS : SOk S) {bg cr wi ch nx by_ : Nat} {lo wa re : Bool} (hC : Cells h0 bg (FarmL cr wi ch nx lo wa re by_)) (hwi : 1 ≤ wi) :
    CS Tryz.prog X S L (d + 1) 45 [.ptr bg 0] h0 (fun v h' => v = .bool false ∧ h0 = h') := by
  refine CS.of (rs := [.tmp 2]) (hS.none _ (by decide) (by decide)) Tryz.func45 rfl rfl ?_
  unfold FarmL nI at hC
  refine Gives.seq ?_
  refine Gives.region [.p 0] (by kernel_rfl) ?_
  refine RP.p rfl (op_assign rfl ?_)
  refine RP.nil ?_
  refine Gives.seq ?_
  refine Gives.region [.p 0, .p 1, .p 2, .p 3, .p 4, .p 5, .r 6, .p 7, .p 8, .p 9] (by kernel_rfl) ?_
  refine pM rfl rfl ?_
  refine RP.p rfl (op_bin (qT rfl) rfl (bin_eql_nil Tryz.underlying47) ?_)
  refine pM rfl rfl ?_
  refine RP.p rfl (OpP.on' rfl rfl rfl (op_move (qT rfl) ?_))
  refine RP.p rfl (OpP.on' rfl rfl rfl (op_nilCheck (qT rfl) ?_))
  refine RP.p rfl (OpP.on' rfl rfl rfl (op_fieldAddr (off := 1) (qT rfl) (by kernel_rfl) ?_))
  refine RP.r rfl (OpR.on' rfl rfl rfl (op_load (qT rfl) (hC.load (by kernel_rfl) rfl) ?_))
  refine RP.p rfl (OpP.on' rfl rfl rfl (op_bin (qT rfl) (show ev _ _ = some (.int .i64 (.ofNat 0)) from rfl) (by first | exact bin_eql_f (by omega) | exact bin_eqlI_f (by first | assumption | omega)) ?_))
  refine RP.p rfl (op_pick_f (qT rfl) (qT rfl) ?_)
  refine pA rfl rfl ?_
  refine RP.nil ?_
  exact Gives.ret0 (RS.one rfl (⟨rfl, rfl⟩))
theorem report_spec {d : Nat} (hS : SOk S) (hw : WF h0) {bg cr wi ch nx by_ : Nat} {lo wa re : Bool} (hC : Cells h0 bg (FarmL cr wi ch nx lo wa re by_)) (hwi : 1 ≤ wi) :
    CS Tryz.prog X S L (d + 2) 18 [.ptr bg 0] h0 (fun v h' => v = .agg [nI ch, .bool lo, .bool wa, .bool re, nI by_, nI nx] ∧ Fr (fun _ => False) h0 h') := by
  refine CS.of (rs := [.cell 2 62]) (hS.none _ (by decide) (by decide)) Tryz.func18 rfl rfl ?_
  have hF : Fr (fun _ => False) h0 h0 := Fr.refl hw
  refine Gives.seq ?_
  refine Gives.region [.p 0] (by kernel_rfl) ?_
  refine RP.p rfl (op_allocC (v := .agg [.int .i64 (.ofNat 0), .bool false, .bool false, .bool false, .int .i64 (.ofNat 0), .int .i64 (.ofNat 0)]) (by kernel_rfl) hw (fun h1 b2 eb2 hB2 hF1 hn => ?_))
  have n_bg_b2 : bg ≠ b2 := by have := hC.lt hw; omega
  have l_b2 : h0.next ≤ b2 := by have := hF.next; omega
  replace hC := hC.fr hw hF1 (fun e => e)
  replace hF := hF.then hF1 (by intro c hc; first | exact .inl hc | exact .inl (.inl hc) | exact .inl (.inr hc) | exact hc.elim | (subst hc; right; omega))
  replace hw := hF1.wf
  clear hF1
  refine RP.nil ?_
  refine Gives.seq ?_
  refine Gives.seq ?_
  refine Gives.region [.p 0, .e 1 []] (by kernel_rfl) ?_
  refine pM rfl rfl ?_
  refine RP.e rfl (op_calls (evs_cons (qT rfl) evs_nil) (by kernel_rfl) (none_spec hS hC hwi) ?_)
  rintro v h' ⟨rfl, rfl⟩
  refine RP.nil ?_
  refine Gives.else_ (qT rfl) ?_
  refine Gives.skip ?_
  refine Gives.seq ?_
  refine Gives.region [.p 0, .p 1, .p 2, .r 3, .e 4 []] (by kernel_rfl) ?_
  refine pM rfl rfl ?_
  refine pN rfl rfl ?_
  refine pF (off := 2) rfl rfl (by kernel_rfl) ?_
  refine pL rfl rfl (hC.loadG (m := 6) (by kernel_rfl) (by kernel_rfl) rfl (Nat.le_of_ble_eq_true rfl)) ?_
  refine RP.e rfl (op_storeW (m := 6) (qT rfl) (qT rfl) hw hB2 (by kernel_rfl) rfl rfl (by first | rfl | assumption) (fun h2 hC1 hF1 hn => ?_))
  replace hC := hC.fr hw hF1 (fun e => n_bg_b2 e)
  replace hB2 := hC1
  replace hF := hF.then hF1 (by intro c hc; first | exact .inl hc | exact .inl (.inl hc) | exact .inl (.inr hc) | exact hc.elim | (subst hc; right; omega))
  replace hw := hF1.wf
  clear hF1 hn hC1
  refine RP.nil ?_
  exact Gives.ret0 (RS.cell1 rfl (hB2.loadG (m := 6) (by kernel_rfl) (by kernel_rfl) rfl (Nat.le_of_ble_eq_true rfl)) (⟨rfl, hF⟩))
def frameL (cr ch sq : Nat) (dv : AV) : List AV := [.bool false, .bool false, nI cr, nI ch, nI sq, dv]
theorem tvalid_spec {d : Nat} (hS : SOk S) (hw : WF h0) {cr ch sq : Nat} {dv : AV} {l : List Nat} (hI : Img h0 dv l) (hcr : cr ≤ 1023) (hch : ch ≤ 7) (hsq : sq < 256) (hl1 : 1 ≤ l.length) (hl2 : l.length ≤ 1017) :
    CS Tryz.prog X S L (d + 1) 46 [.agg (frameL cr ch sq dv)] h0 (fun v h' => v = .bool true ∧ Fr (fun _ => False) h0 h') := by
  refine CS.of (rs := [.tmp 2]) (hS.none _ (by decide) (by decide)) Tryz.func46 rfl rfl ?_
  have hF : Fr (fun _ => False) h0 h0 := Fr.refl hw
  have hw0 := hw
  unfold frameL nI
  refine Gives.seq ?_
  refine Gives.region [.p 0, .p 1] (by kernel_rfl) ?_
  refine RP.p rfl (op_boxC (qT rfl) hw (fun h1 b1 eb1 hB1 hF1 hn => ?_))
  have l_b1 : h0.next ≤ b1 := by have := hF.next; omega
  replace hF := hF.then hF1 (by intro c hc; first | exact .inl hc | exact .inl (.inl hc) | exact .inl (.inr hc) | exact hc.elim | (subst hc; right; omega))
  replace hw := hF1.wf
  clear hF1
  refine RP.p rfl (op_assign rfl ?_)
  refine RP.nil ?_
  refine Gives.seq ?_
  refine Gives.block ?_
  refine Gives.seq ?_
  refine Gives.seq ?_
  refine Gives.region [.p 0, .r 1, .p 2, .p 3, .p 4, .r 5, .p 6, .p 7, .p 8] (by kernel_rfl) ?_
  refine pF (off := 2) rfl rfl (by kernel_rfl) ?_
  refine pL rfl rfl (hB1.load (by kernel_rfl) rfl) ?_
  refine RP.p rfl (op_bin (qT rfl) (show ev _ _ = some (.int .i64 (.ofNat 0)) from rfl) (by first | exact bin_lss_f (by omega) | exact bin_lssI_f (by first | assumption | omega)) ?_)
  refine pM rfl rfl ?_
  refine RP.p rfl (OpP.on' rfl rfl rfl (op_fieldAddr (off := 2) (qT rfl) (by kernel_rfl) ?_))
  refine RP.r rfl (OpR.on' rfl rfl rfl (op_load (qT rfl) (hB1.load (by kernel_rfl) rfl) ?_))
  refine RP.p rfl (OpP.on' rfl rfl rfl (op_bin (qT rfl) (show ev _ _ = some (.int .i64 (.ofNat 1023)) from rfl) (by first | exact bin_gtr_f (by omega) | exact bin_gtrI_f (by first | assumption | omega)) ?_))
  refine RP.p rfl (op_pick_f (qT rfl) (qT rfl) ?_)
  refine pA rfl rfl ?_
  refine RP.nil ?_
  refine Gives.else_ (qT rfl) ?_
  refine Gives.region [.p 0, .r 1, .p 2, .p 3, .p 4, .r 5, .p 6, .p 7, .p 8] (by kernel_rfl) ?_
  refine pF (off := 3) rfl rfl (by kernel_rfl) ?_
  refine pL rfl rfl (hB1.load (by kernel_rfl) rfl) ?_
  refine RP.p rfl (op_bin (qT rfl) (show ev _ _ = some (.int .i64 (.ofNat 0)) from rfl) (by first | exact bin_lss_f (by omega) | exact bin_lssI_f (by first | assumption | omega)) ?_)
  refine pM rfl rfl ?_
  refine RP.p rfl (OpP.on' rfl rfl rfl (op_fieldAddr (off := 3) (qT rfl) (by kernel_rfl) ?_))
  refine RP.r rfl (OpR.on' rfl rfl rfl (op_load (qT rfl) (hB1.load (by kernel_rfl) rfl) ?_))
  refine RP.p rfl (OpP.on' rfl rfl rfl (op_bin (qT rfl) (show ev _ _ = some (.int .i64 (.ofNat 7)) from rfl) (by first | exact bin_gtr_f (by omega) | exact bin_gtrI_f (by first | assumption | omega)) ?_))
  refine RP.p rfl (op_pick_f (qT rfl) (qT rfl) ?_)
  refine pA rfl rfl ?_
  refine RP.nil ?_
  refine Gives.else_ (qT rfl) ?_
  refine Gives.seq ?_
  refine Gives.seq ?_
  refine Gives.region [.p 0, .r 1, .p 2, .p 3, .p 4, .r 5, .p 6, .p 7, .p 8] (by kernel_rfl) ?_
  refine pF (off := 4) rfl rfl (by kernel_rfl) ?_
  refine pL rfl rfl (hB1.load (by kernel_rfl) rfl) ?_
  refine RP.p rfl (op_bin (qT rfl) (show ev _ _ = some (.int .i64 (.ofNat 0)) from rfl) (by first | exact bin_lss_f (by omega) | exact bin_lssI_f (by first | assumption | omega)) ?_)
  refine pM rfl rfl ?_
  refine RP.p rfl (OpP.on' rfl rfl rfl (op_fieldAddr (off := 4) (qT rfl) (by kernel_rfl) ?_))
  refine RP.r rfl (OpR.on' rfl rfl rfl (op_load (qT rfl) (hB1.load (by kernel_rfl) rfl) ?_))
  refine RP.p rfl (OpP.on' rfl rfl rfl (op_bin (qT rfl) (show ev _ _ = some (.int .i64 (.ofNat 255)) from rfl) (by first | exact bin_gtr_f (by omega) | exact bin_gtrI_f (by first | assumption | omega)) ?_))
  refine RP.p rfl (op_pick_f (qT rfl) (qT rfl) ?_)
  refine pA rfl rfl ?_
  refine RP.nil ?_
  refine Gives.else_ (qT rfl) ?_
  refine Gives.region [.p 0, .r 1, .p 2, .p 3, .p 4, .p 5, .r 6, .p 7, .p 8, .p 9, .p 10] (by kernel_rfl) ?_
  refine pF (off := 5) rfl rfl (by kernel_rfl) ?_
  refine pL rfl rfl (hB1.load (by kernel_rfl) rfl) ?_
  refine RP.p rfl (op_len_img (qT rfl) (hI.fr hw0 hF) Tryz.underlying26 ?_)
  refine RP.p rfl (op_bin (qT rfl) (show ev _ _ = some (.int .i64 (.ofNat 1)) from rfl) (by first | exact bin_lss_f (by omega) | exact bin_lssI_f (by first | assumption | omega)) ?_)
  refine pM rfl rfl ?_
  refine RP.p rfl (OpP.on' rfl rfl rfl (op_fieldAddr (off := 5) (qT rfl) (by kernel_rfl) ?_))
  refine RP.r rfl (OpR.on' rfl rfl rfl (op_load (qT rfl) (hB1.load (by kernel_rfl) rfl) ?_))
  refine RP.p rfl (OpP.on' rfl rfl rfl (op_len_img (qT rfl) (hI.fr hw0 hF) Tryz.underlying26 ?_))
  refine RP.p rfl (OpP.on' rfl rfl rfl (op_bin (qT rfl) (show ev _ _ = some (.int .i64 (.ofNat 1017)) from rfl) (by first | exact bin_gtr_f (by omega) | exact bin_gtrI_f (by first | assumption | omega)) ?_))
  refine RP.p rfl (op_pick_f (qT rfl) (qT rfl) ?_)
  refine pA rfl rfl ?_
  refine RP.nil ?_
  refine Gives.else_ (qT rfl) ?_
  refine Gives.skip ?_
  refine Gives.seq ?_
  refine Gives.region [.p 0, .r 1, .p 2, .p 3, .r 4, .p 5, .p 6, .p 7] (by kernel_rfl) ?_
  refine pF (off := 0) rfl rfl (by kernel_rfl) ?_
  refine pL rfl rfl (hB1.load (by kernel_rfl) rfl) ?_
  refine pM rfl rfl ?_
  refine RP.p rfl (OpP.on' rfl rfl rfl (op_fieldAddr (off := 1) (qT rfl) (by kernel_rfl) ?_))
  refine RP.r rfl (OpR.on' rfl rfl rfl (op_load (qT rfl) (hB1.load (by kernel_rfl) rfl) ?_))
  refine RP.p rfl (OpP.on' rfl rfl rfl (op_notF (qT rfl) ?_))
  refine RP.p rfl (op_pick_f (qT rfl) (qT rfl) ?_)
  refine pA rfl rfl ?_
  refine RP.nil ?_
  exact Gives.ret0 (RS.one rfl (⟨rfl, hF⟩))
end Go.Abs
