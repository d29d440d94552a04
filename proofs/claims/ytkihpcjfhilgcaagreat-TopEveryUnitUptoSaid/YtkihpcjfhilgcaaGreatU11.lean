/- TopEveryUnit answers true, with open values: the walk. No condition. -/
import Derived.Test.YtkihpcjfhilgcaaGreatU10
namespace Go.Abs
open Go.Proofs
variable {X : Ext0} {S : Sums} {L : Nat} {h0 h : H} {F : Fm}
variable {N : Nat} {kd wt : Nat → Int} {fu : Nat → Bool} {dv : Nat → AV} {dl : Nat → List Nat}
noncomputable def awU : List AV → H → Option (AV × H) := fun args h => match args with
  | [] => some (.bool true, h)
  | _ => none
theorem awU_spec {d : Nat} (hA : S 7 = some awU) : CS Tryz.prog X S L (d + 1) 7 [] h (fun v h' => v = .bool true ∧ h = h') := CS.sum hA rfl ⟨rfl, rfl⟩
def MvsArg (h : H) (lv : AV) (N : Nat) (kd wt : Nat → Int) (fu : Nat → Bool) (dv : Nat → AV) (dl : Nat → List Nat) : Prop :=
  (lv = .snil ∧ N = 0) ∨ ∃ bl ol cl exl, lv = .slice bl ol N cl 4 exl ∧ N ≤ cl ∧ Mvs h bl ol N kd wt fu dv dl
theorem unit_spec {d : Nat} (hS : SOk S) (hA : S 7 = some awU) (hL : 2000000 ≤ L) (hw0 : WF h0) (q0 q1 q2 q3 q4 q5 : Int) {lv : AV} (hlv : MvsArg h0 lv N kd wt fu dv dl) (hN : N ≤ 1048576) :
    CS Tryz.prog X S L (d + 7) 4 [.agg [zI q0, zI q1, zI q2, zI q3, zI q4, zI q5], lv] h0 (fun v _ => v = .bool true) := by
  refine CS.of (rs := [.tmp 4]) (hS.none _ (by decide) (by decide)) Tryz.func4 rfl rfl ?_
  have hF : Fr (fun _ => False) h0 h0 := Fr.refl hw0
  have hw := hw0
  have e1 : ∀ n : Nat, Int.ofNat n = (n : Int) := fun _ => rfl
  by_cases hok : farmOk q0 q1
  · skip
    refine Gives.seq ?_
    refine Gives.region [.p 0, .p 1] (by kernel_rfl) ?_
    refine RP.p rfl (op_boxC (qT rfl) hw (fun h1 b2 eb2 hB2 hF1 hn => ?_))
    have l_b2 : h0.next ≤ b2 := by have := hF.next; omega
    replace hB2 : Cells h1 b2 ([zI q0, zI q1, zI q2, zI q3, zI q4, zI q5]) := hB2
    replace hF := hF.then hF1 (by intro c hc; first | exact .inl hc | exact .inl (.inl hc) | exact .inl (.inr hc) | exact hc.elim | (subst hc; right; omega))
    replace hw := hF1.wf
    clear hF1
    refine RP.p rfl (op_assign rfl ?_)
    refine RP.nil ?_
    refine Gives.seq ?_
    refine Gives.region [.p 0, .r 1, .p 2, .r 3, .p 4, .r 5, .p 6, .r 7, .p 8, .r 9, .e 10 [], .p 11] (by kernel_rfl) ?_
    refine pF (off := 0) rfl rfl (by kernel_rfl) ?_
    refine pL rfl rfl (hB2.load (by kernel_rfl) rfl) ?_
    refine pF (off := 1) rfl rfl (by kernel_rfl) ?_
    refine pL rfl rfl (hB2.load (by kernel_rfl) rfl) ?_
    refine pF (off := 2) rfl rfl (by kernel_rfl) ?_
    refine pL rfl rfl (hB2.load (by kernel_rfl) rfl) ?_
    refine pF (off := 3) rfl rfl (by kernel_rfl) ?_
    refine pL rfl rfl (hB2.load (by kernel_rfl) rfl) ?_
    refine pF (off := 4) rfl rfl (by kernel_rfl) ?_
    refine pL rfl rfl (hB2.load (by kernel_rfl) rfl) ?_
    refine RP.e rfl (op_calls (evs_cons (qT rfl) (evs_cons (qT rfl) (evs_cons (qT rfl) (evs_cons (qT rfl) (evs_cons (qT rfl) evs_nil))))) (by kernel_rfl) (fnew_spec hS hw q0 q1 q2 q3 q4) ?_)
    rintro v h2 ⟨bf, rfl, ebf, hbf, hF1, to, re, hCf⟩
    replace hB2 := hB2.fr hw hF1 (fun e => e)
    replace hF := hF.then hF1 (by intro c hc; first | exact .inl hc | exact .inl (.inl hc) | exact .inl (.inr hc) | exact hc.elim | (subst hc; right; omega))
    replace hw := hF1.wf
    refine pA rfl rfl ?_
    refine RP.nil ?_
    refine Gives.seq ?_
    refine Gives.region [.p 0, .r 1, .p 2, .r 3, .p 4, .r 5, .e 6 [], .p 7] (by kernel_rfl) ?_
    refine pF (off := 0) rfl rfl (by kernel_rfl) ?_
    refine pL rfl rfl (hB2.load (by kernel_rfl) rfl) ?_
    refine pF (off := 1) rfl rfl (by kernel_rfl) ?_
    refine pL rfl rfl (hB2.load (by kernel_rfl) rfl) ?_
    refine pF (off := 5) rfl rfl (by kernel_rfl) ?_
    refine pL rfl rfl (hB2.load (by kernel_rfl) rfl) ?_
    refine RP.e rfl (op_calls (evs_cons (qT rfl) (evs_cons (qT rfl) (evs_cons (qT rfl) evs_nil))) (by kernel_rfl) (gnew_spec hS hw q0 q1 q5) ?_)
    rintro v h3 ⟨hF1, hgn, hgs⟩
    replace hCf := hCf.fr hw hF1 (fun e => e)
    replace hB2 := hB2.fr hw hF1 (fun e => e)
    replace hF := hF.then hF1 (by intro c hc; first | exact .inl hc | exact .inl (.inl hc) | exact .inl (.inr hc) | exact hc.elim | (subst hc; right; omega))
    replace hw := hF1.wf
    obtain ⟨bg, rfl, ebg, hbg, hCg⟩ := hgs hok
    refine pA rfl rfl ?_
    refine RP.nil ?_
    refine Gives.seq ?_
    refine Gives.seq ?_
    refine Gives.region [.p 0, .p 1] (by kernel_rfl) ?_
    refine pM rfl rfl ?_
    refine RP.p rfl (op_bin (qT rfl) rfl (bin_eql_nil Tryz.underlying45) ?_)
    refine RP.nil ?_
    refine Gives.else_ (qT rfl) ?_
    refine Gives.skip ?_
    refine Gives.seq ?_
    refine Gives.seq ?_
    refine Gives.region [.p 0, .p 1] (by kernel_rfl) ?_
    refine pM rfl rfl ?_
    refine RP.p rfl (op_bin (qT rfl) rfl (bin_eql_nil Tryz.underlying47) ?_)
    refine RP.nil ?_
    refine Gives.else_ (qT rfl) ?_
    refine Gives.skip ?_
    refine Gives.seq ?_
    refine Gives.region [.p 0] (by kernel_rfl) ?_
    refine RP.p rfl (op_assign rfl ?_)
    refine RP.nil ?_
    refine Gives.seq ?_
    refine Gives.region [.p 0] (by kernel_rfl) ?_
    refine RP.p rfl (op_assign rfl ?_)
    refine RP.nil ?_
    refine Gives.seq ?_
    refine Gives.region [.p 0] (by kernel_rfl) ?_
    refine RP.p rfl (op_assign rfl ?_)
    refine RP.nil ?_
    refine Gives.seq ?_
    refine Gives.region [.p 0, .p 1] (by kernel_rfl) ?_
    refine RP.p rfl (op_assign (show ev _ _ = some (.int .i64 (.ofNat 0)) from rfl) ?_)
    refine RP.p rfl (op_assign (show ev _ _ = some (.int .i64 (.ofNat 0)) from rfl) ?_)
    refine RP.nil ?_
    refine Gives.seq ?_
    refine Gives.seq ?_
    refine Gives.region [.p 0] (by kernel_rfl) ?_
    refine RP.p rfl (op_assign (show ev _ _ = some (.int .i64 (.ofNat 0)) from rfl) ?_)
    refine RP.nil ?_
    skip
    have ecr : clampN q0 0 1023 = q0.toNat := by unfold clampN; unfold farmOk at hok; omega
    have ech : clampN q1 0 7 = q1.toNat := by unfold clampN; unfold farmOk at hok; omega
    have hcr : q0.toNat ≤ 1023 := by unfold farmOk at hok; omega
    have hch : q1.toNat ≤ 7 := by unfold farmOk at hok; omega
    rw [ecr, ech] at hCf
    have hs1 : 1 ≤ clampN q2 1 127 ∧ clampN q2 1 127 ≤ 127 := by unfold clampN; omega
    have hs2 : 1 ≤ clampN q5 1 127 ∧ clampN q5 1 127 ≤ 127 := by unfold clampN; omega
    generalize clampN q2 1 127 = size at hCf hs1
    generalize clampN q5 1 127 = wi at hCg hs2
    generalize q0.toNat = cr at hCf hCg hcr
    generalize q1.toNat = ch at hCf hCg hch
    have hn1 : h0.next ≤ bf := by omega
    have hn2 : h0.next ≤ bg := by omega
    have hne : bf ≠ bg := by omega
    let col : Nat → Nat := fun b => if b = bf then 1 else if b = bg then 2 else 0
    have c0 : ∀ b, b < h0.next → col b = 0 := fun b hb => by
      show (if b = bf then 1 else if b = bg then 2 else 0) = 0
      rw [if_neg (by omega), if_neg (by omega)]
    have c1 : col bf = 1 := if_pos rfl
    have c2 : col bg = 2 := by
      show (if bg = bf then 1 else if bg = bg then 2 else 0) = 2
      rw [if_neg (Ne.symm hne), if_pos rfl]
    have hSt : UnSt h0 _ col bf bg size wi cr ch .snil .snil .snil .snil [] [] [] [] 0 0 0 0 [] [] [] :=
      ⟨hw, hF, c0, ⟨⟨_, _, _, _, _, _, hCf⟩, c1, hCf.lt hw⟩, ⟨⟨_, _, _, hCg⟩, c2, hCg.lt hw⟩, ⟨RowK.nil _ _, fun b hb => hb.elim⟩, fun j hj => by simp at hj, ⟨RowK.nil _ _, fun b hb => hb.elim⟩, fun j hj => by simp at hj,
        ⟨RowK.nil _ _, fun b hb => hb.elim⟩, fun j x hx => by simp at hx, ⟨RowK.nil _ _, fun b hb => hb.elim⟩, fun j x hx => by simp at hx, UInv.start hs1.1 hs1.2⟩
    refine Gives.block ?_
    refine Gives.loop (I := fun k F h => ∃ i, k + i = N ∧ LoopSt h0 bf bg size wi cr ch lv i i F h) (fun k F h hI => ?_) (k := N) (by omega) ⟨0, rfl, rfl, rfl, rfl, rfl, col, .snil, .snil, .snil, .snil, [], [], [], [], 0, 0, 0, 0, [], [], [], 0, rfl, rfl, rfl, rfl, rfl, by decide, hSt, Nat.le_refl _, Nat.le_refl _, Nat.le_refl _⟩
    clear hSt hCf hCg hF hw
    obtain ⟨i, hk, hL⟩ := hI
    by_cases hi : i < N
    · obtain ⟨bl, ol, cl, exl, rfl, hcl, hM⟩ : ∃ bl ol cl exl, lv = .slice bl ol N cl 4 exl ∧ N ≤ cl ∧ Mvs h0 bl ol N kd wt fu dv dl := by
        rcases hlv with ⟨_, rfl⟩ | hlv
        · exact absurd hi (Nat.not_lt_zero _)
        · exact hlv
      obtain ⟨f1, f5, f6, f12, col, u, sv, up, dn, us, ss, pf, qf, a, fl, fr, n, C, ps, qs, now, f7, f8, f9, f10, f11, hnow, hSt, hC, hP, hQ⟩ := hL
      have hK := (hM.fr hw0 hSt.f0).k i hi
      refine Gives.seq ?_
      refine Gives.seq ?_
      refine Gives.region [.p 0, .p 1, .p 2, .p 3] (by kernel_rfl) ?_
      refine pM rfl f12 ?_
      refine pM rfl (qN rfl f1) ?_
      refine RP.p rfl (op_len_slice (qT qS) Tryz.underlying44 ?_)
      refine RP.p rfl (op_bin (qT (qN rfl (qN rfl qS))) (qT qS) (by first | exact bin_lss_t (by omega) | exact bin_lssI_t (by first | with_reducible assumption | omega)) ?_)
      refine RP.nil ?_
      refine Gives.then_ (qT qS) ?_
      refine Gives.skip ?_
      refine Gives.seq ?_
      refine Gives.block ?_
      refine Gives.seq ?_
      refine Gives.seq ?_
      refine Gives.region [.p 0, .p 1, .p 2, .p 3, .r 4] (by kernel_rfl) ?_
      refine pM rfl (qN rfl (qN rfl (qN rfl (qN rfl f1)))) ?_
      refine pM rfl (qN rfl (qN rfl (qN rfl (qN rfl (qN rfl f12))))) ?_
      refine RP.p rfl (op_indexAddr (qT (by repeat (first | with_reducible (first | exact qS | assumption) | refine qN rfl ?_ | exact qO rfl))) (qT (by repeat (first | with_reducible (first | exact qS | assumption) | refine qN rfl ?_ | exact qO rfl))) Tryz.underlying44 (by kernel_rfl) hi hcl ?_)
      refine pF (off := 0) rfl qS (by kernel_rfl) ?_
      refine RP.r rfl (op_load (qT (by repeat (first | with_reducible (first | exact qS | assumption) | refine qN rfl ?_ | exact qO rfl))) hK ?_)
      refine RP.nil ?_
      refine Gives.mono (N := LoopSt h0 bf bg size wi cr ch (.slice bl ol N cl 4 exl) i (i + 1)) (B := _) ?_ (fun F h hL => ?_) (fun _ _ _ g => g)
      · refine kinds hS hi hcl hN hw0 hM hs2.1 hs2.2 hcr hch ⟨(by repeat (first | with_reducible (first | exact qS | assumption) | refine qN rfl ?_ | exact qO rfl)), (by repeat (first | with_reducible (first | exact qS | assumption) | refine qN rfl ?_ | exact qO rfl)), (by repeat (first | with_reducible (first | exact qS | assumption) | refine qN rfl ?_ | exact qO rfl)), (by repeat (first | with_reducible (first | exact qS | assumption) | refine qN rfl ?_ | exact qO rfl)), col, u, sv, up, dn, us, ss, pf, qf, a, fl, fr, n, C, ps, qs, now, (by repeat (first | with_reducible (first | exact qS | assumption) | refine qN rfl ?_ | exact qO rfl)), (by repeat (first | with_reducible (first | exact qS | assumption) | refine qN rfl ?_ | exact qO rfl)), (by repeat (first | with_reducible (first | exact qS | assumption) | refine qN rfl ?_ | exact qO rfl)), (by repeat (first | with_reducible (first | exact qS | assumption) | refine qN rfl ?_ | exact qO rfl)), (by repeat (first | with_reducible (first | exact qS | assumption) | refine qN rfl ?_ | exact qO rfl)), hnow, hSt, hC, hP, hQ⟩ (by repeat (first | with_reducible (first | exact qS | assumption) | refine qN rfl ?_ | exact qO rfl))
      clear hSt hK f1 f5 f6 f12 f7 f8 f9 f10 f11 hC hP hQ hnow
      obtain ⟨f1, f5, f6, f12, col, u, sv, up, dn, us, ss, pf, qf, a, fl, fr, n, C, ps, qs, now, f7, f8, f9, f10, f11, hnow, hSt, hC, hP, hQ⟩ := hL
      obtain ⟨to, re, st, nw, tm, rp, hCf⟩ := hSt.qf_.1
      have g1 := hSt.inv.u
      have g2 := hSt.inv.an
      refine Gives.seq ?_
      refine Gives.region [.p 0, .e 1 [], .p 2, .p 3, .p 4, .p 5, .e 6 [], .p 7, .e 8 [], .p 9, .p 10, .p 11, .p 12, .p 13] (by kernel_rfl) ?_
      refine pM rfl f5 ?_
      refine RP.e rfl (op_calls (evs_cons (qT qS) evs_nil) (by kernel_rfl) (acked_spec hS hCf) ?_)
      rintro v h' ⟨rfl, rfl⟩
      refine pM rfl (qN rfl (qN rfl f10)) ?_
      refine RP.p rfl (op_bin (qT (qN rfl qS)) (qT qS) (by first | exact bin_gtr_f (by omega) | exact bin_gtrI_f (by first | with_reducible assumption | omega)) ?_)
      refine pM rfl qS ?_
      refine RP.p rfl (OpP.on' rfl rfl qS (op_move (qT (qN rfl (qN rfl (qN rfl (qN rfl (qN rfl f5)))))) ?_))
      refine RP.e rfl (OpE.on' rfl rfl (qN rfl qS) (op_calls (evs_cons (qT qS) evs_nil) (by kernel_rfl) (acked_spec hS hCf) ?_))
      rintro v h' ⟨rfl, rfl⟩
      refine RP.p rfl (OpP.on' rfl rfl (qN rfl (qN rfl qS)) (op_move (qT (qN rfl (qN rfl (qN rfl (qN rfl (qN rfl (qN rfl (qN rfl f5)))))))) ?_))
      refine RP.e rfl (OpE.on' rfl rfl (qN rfl (qN rfl (qN rfl qS))) (op_calls (evs_cons (qT qS) evs_nil) (by kernel_rfl) (queued_spec hS hSt.pu.1 hCf) ?_))
      rintro v h' ⟨rfl, rfl⟩
      refine RP.p rfl (OpP.on' rfl rfl (qN rfl (qN rfl (qN rfl (qN rfl qS)))) (op_bin (qT (qN rfl (qN rfl qS))) (qT qS) (by first | exact bin_add (by have e1 : topK .i64 = 9223372036854775808 := rfl; have e2 : topK .u32 = 4294967296 := rfl; have e3 : topK .u64 = 18446744073709551616 := rfl; have e4 : topK .u8 = 256 := rfl; have e5 : topK .u16 = 65536 := rfl; omega) | exact bin_addI) ?_))
      refine RP.p rfl (OpP.on' rfl rfl (qN rfl (qN rfl (qN rfl (qN rfl (qN rfl qS))))) (op_move (qT (by repeat (first | with_reducible (first | exact qS | assumption) | refine qN rfl ?_ | exact qO rfl))) ?_))
      refine RP.p rfl (OpP.on' rfl rfl (qN rfl (qN rfl (qN rfl (qN rfl (qN rfl (qN rfl qS)))))) (op_len_row (qT qS) hSt.rs.1 Tryz.underlying49 ?_))
      refine RP.p rfl (OpP.on' rfl rfl (qN rfl (qN rfl (qN rfl (qN rfl (qN rfl (qN rfl (qN rfl qS))))))) (op_bin (qT (qN rfl (qN rfl qS))) (qT qS) (by first | exact bin_neq_f (by omega) | exact bin_neqI_f (by first | with_reducible assumption | omega)) ?_))
      refine RP.p rfl (op_pick_f (qT (qN rfl (qN rfl (qN rfl (qN rfl (qN rfl (qN rfl (qN rfl (qN rfl qS))))))))) (qT qS) ?_)
      refine RP.nil ?_
      refine Gives.else_ (qT qS) ?_
      refine Gives.skip ?_
      refine Gives.region [.p 0, .p 1, .p 2] (by kernel_rfl) ?_
      refine pM rfl (by repeat (first | with_reducible (first | exact qS | assumption) | refine qN rfl ?_ | exact qO rfl)) ?_
      refine RP.p rfl (op_bin (qT qS) (show ev _ _ = some (.int .i64 (.ofNat 1)) from rfl) (by first | exact bin_add (by have e1 : topK .i64 = 9223372036854775808 := rfl; have e2 : topK .u32 = 4294967296 := rfl; have e3 : topK .u64 = 18446744073709551616 := rfl; have e4 : topK .u8 = 256 := rfl; have e5 : topK .u16 = 65536 := rfl; omega) | exact bin_addI) ?_)
      refine pA rfl qS ?_
      refine RP.nil ?_
      exact ⟨k - 1, by omega, i + 1, by omega, (by repeat (first | with_reducible (first | exact qS | assumption) | refine qN rfl ?_ | exact qO rfl)), (by repeat (first | with_reducible (first | exact qS | assumption) | refine qN rfl ?_ | exact qO rfl)), (by repeat (first | with_reducible (first | exact qS | assumption) | refine qN rfl ?_ | exact qO rfl)), (by repeat (first | with_reducible (first | exact qS | assumption) | refine qN rfl ?_ | exact qO rfl)), col, u, sv, up, dn, us, ss, pf, qf, a, fl, fr, n, C, ps, qs, now, (by repeat (first | with_reducible (first | exact qS | assumption) | refine qN rfl ?_ | exact qO rfl)), (by repeat (first | with_reducible (first | exact qS | assumption) | refine qN rfl ?_ | exact qO rfl)), (by repeat (first | with_reducible (first | exact qS | assumption) | refine qN rfl ?_ | exact qO rfl)), (by repeat (first | with_reducible (first | exact qS | assumption) | refine qN rfl ?_ | exact qO rfl)), (by repeat (first | with_reducible (first | exact qS | assumption) | refine qN rfl ?_ | exact qO rfl)), hnow, hSt, hC, hP, hQ⟩
    · obtain ⟨f1, f5, f6, f12, _⟩ := hL
      have hiN : i = N := by omega
      rcases hlv with ⟨rfl, hN0⟩ | ⟨bl, ol, cl, exl, rfl, hcl, hM⟩
      · subst hN0
        refine Gives.seq ?_
        refine Gives.seq ?_
        refine Gives.region [.p 0, .p 1, .p 2, .p 3] (by kernel_rfl) ?_
        refine pM rfl f12 ?_
        refine pM rfl (qN rfl f1) ?_
        refine RP.p rfl (op_len_nil (qT qS) Tryz.underlying44 ?_)
        refine RP.p rfl (op_bin (qT (qN rfl (qN rfl qS))) (qT qS) (by first | exact bin_lss_f (by omega) | exact bin_lssI_f (by first | with_reducible assumption | omega)) ?_)
        refine RP.nil ?_
        refine Gives.else_ (qT qS) ?_
        refine Gives.exit_same ?_
        refine Gives.seq ?_
        refine Gives.region [.e 0 [], .p 1] (by kernel_rfl) ?_
        refine RP.e rfl (op_calls evs_nil (by kernel_rfl) (awU_spec hA) ?_)
        rintro v h' ⟨rfl, rfl⟩
        refine pA rfl qS ?_
        refine RP.nil ?_
        exact Gives.ret0 (RS.one (by repeat (first | with_reducible (first | exact qS | assumption) | refine qN rfl ?_ | exact qO rfl)) (rfl))
      ·
        refine Gives.seq ?_
        refine Gives.seq ?_
        refine Gives.region [.p 0, .p 1, .p 2, .p 3] (by kernel_rfl) ?_
        refine pM rfl f12 ?_
        refine pM rfl (qN rfl f1) ?_
        refine RP.p rfl (op_len_slice (qT qS) Tryz.underlying44 ?_)
        refine RP.p rfl (op_bin (qT (qN rfl (qN rfl qS))) (qT qS) (by first | exact bin_lss_f (by omega) | exact bin_lssI_f (by first | with_reducible assumption | omega)) ?_)
        refine RP.nil ?_
        refine Gives.else_ (qT qS) ?_
        refine Gives.exit_same ?_
        refine Gives.seq ?_
        refine Gives.region [.e 0 [], .p 1] (by kernel_rfl) ?_
        refine RP.e rfl (op_calls evs_nil (by kernel_rfl) (awU_spec hA) ?_)
        rintro v h' ⟨rfl, rfl⟩
        refine pA rfl qS ?_
        refine RP.nil ?_
        exact Gives.ret0 (RS.one (by repeat (first | with_reducible (first | exact qS | assumption) | refine qN rfl ?_ | exact qO rfl)) (rfl))
  · have hq : q0 < Int.ofNat 0 ∨ Int.ofNat 1023 < q0 ∨ q1 < Int.ofNat 0 ∨ Int.ofNat 7 < q1 := by unfold farmOk at hok; rw [e1, e1, e1]; omega
    refine Gives.seq ?_
    refine Gives.region [.p 0, .p 1] (by kernel_rfl) ?_
    refine RP.p rfl (op_boxC (qT rfl) hw (fun h1 b2 eb2 hB2 hF1 hn => ?_))
    have l_b2 : h0.next ≤ b2 := by have := hF.next; omega
    replace hB2 : Cells h1 b2 ([zI q0, zI q1, zI q2, zI q3, zI q4, zI q5]) := hB2
    replace hF := hF.then hF1 (by intro c hc; first | exact .inl hc | exact .inl (.inl hc) | exact .inl (.inr hc) | exact hc.elim | (subst hc; right; omega))
    replace hw := hF1.wf
    clear hF1
    refine RP.p rfl (op_assign rfl ?_)
    refine RP.nil ?_
    refine Gives.seq ?_
    refine Gives.region [.p 0, .r 1, .p 2, .r 3, .p 4, .r 5, .p 6, .r 7, .p 8, .r 9, .e 10 [], .p 11] (by kernel_rfl) ?_
    refine pF (off := 0) rfl rfl (by kernel_rfl) ?_
    refine pL rfl rfl (hB2.load (by kernel_rfl) rfl) ?_
    refine pF (off := 1) rfl rfl (by kernel_rfl) ?_
    refine pL rfl rfl (hB2.load (by kernel_rfl) rfl) ?_
    refine pF (off := 2) rfl rfl (by kernel_rfl) ?_
    refine pL rfl rfl (hB2.load (by kernel_rfl) rfl) ?_
    refine pF (off := 3) rfl rfl (by kernel_rfl) ?_
    refine pL rfl rfl (hB2.load (by kernel_rfl) rfl) ?_
    refine pF (off := 4) rfl rfl (by kernel_rfl) ?_
    refine pL rfl rfl (hB2.load (by kernel_rfl) rfl) ?_
    refine RP.e rfl (op_calls (evs_cons (qT rfl) (evs_cons (qT rfl) (evs_cons (qT rfl) (evs_cons (qT rfl) (evs_cons (qT rfl) evs_nil))))) (by kernel_rfl) (fnew_spec hS hw q0 q1 q2 q3 q4) ?_)
    rintro v h2 ⟨bf, rfl, ebf, hbf, hF1, to, re, hCf⟩
    replace hB2 := hB2.fr hw hF1 (fun e => e)
    replace hF := hF.then hF1 (by intro c hc; first | exact .inl hc | exact .inl (.inl hc) | exact .inl (.inr hc) | exact hc.elim | (subst hc; right; omega))
    replace hw := hF1.wf
    refine pA rfl rfl ?_
    refine RP.nil ?_
    refine Gives.seq ?_
    refine Gives.region [.p 0, .r 1, .p 2, .r 3, .p 4, .r 5, .e 6 [], .p 7] (by kernel_rfl) ?_
    refine pF (off := 0) rfl rfl (by kernel_rfl) ?_
    refine pL rfl rfl (hB2.load (by kernel_rfl) rfl) ?_
    refine pF (off := 1) rfl rfl (by kernel_rfl) ?_
    refine pL rfl rfl (hB2.load (by kernel_rfl) rfl) ?_
    refine pF (off := 5) rfl rfl (by kernel_rfl) ?_
    refine pL rfl rfl (hB2.load (by kernel_rfl) rfl) ?_
    refine RP.e rfl (op_calls (evs_cons (qT rfl) (evs_cons (qT rfl) (evs_cons (qT rfl) evs_nil))) (by kernel_rfl) (gnew_spec hS hw q0 q1 q5) ?_)
    rintro v h3 ⟨hF1, hgn, hgs⟩
    replace hCf := hCf.fr hw hF1 (fun e => e)
    replace hB2 := hB2.fr hw hF1 (fun e => e)
    replace hF := hF.then hF1 (by intro c hc; first | exact .inl hc | exact .inl (.inl hc) | exact .inl (.inr hc) | exact hc.elim | (subst hc; right; omega))
    replace hw := hF1.wf
    obtain rfl := hgn hok
    refine pA rfl rfl ?_
    refine RP.nil ?_
    refine Gives.seq ?_
    refine Gives.seq ?_
    refine Gives.region [.p 0, .p 1] (by kernel_rfl) ?_
    refine pM rfl rfl ?_
    refine RP.p rfl (op_bin (qT rfl) rfl (bin_eql_nil Tryz.underlying45) ?_)
    refine RP.nil ?_
    refine Gives.else_ (qT rfl) ?_
    refine Gives.skip ?_
    refine Gives.seq ?_
    refine Gives.seq ?_
    refine Gives.region [.p 0, .p 1] (by kernel_rfl) ?_
    refine pM rfl rfl ?_
    refine RP.p rfl (op_bin (qT rfl) rfl (bin_eql_nn Tryz.underlying47) ?_)
    refine RP.nil ?_
    refine Gives.then_ (qT rfl) ?_
    skip
    by_cases g0 : q0 < Int.ofNat 0
    · skip
      refine Gives.seq ?_
      refine Gives.region [.p 0, .r 1, .p 2, .p 3, .p 4, .r 5, .p 6, .p 7, .p 8, .p 9, .r 10, .p 11, .p 12, .p 13, .p 14, .r 15, .p 16, .p 17, .p 18, .e 19 [], .p 20, .p 21] (by kernel_rfl) ?_
      refine pF (off := 0) rfl rfl (by kernel_rfl) ?_
      refine pL rfl rfl (hB2.load (by kernel_rfl) rfl) ?_
      refine RP.p rfl (op_bin (qT rfl) (show ev _ _ = some (.int .i64 (.ofNat 0)) from rfl) (by first | exact bin_lss_t (by omega) | exact bin_lssI_t (by first | with_reducible assumption | omega)) ?_)
      refine pM rfl rfl ?_
      refine RP.p rfl (OpP.offT rfl rfl rfl ?_)
      refine RP.r rfl (OpR.offT rfl rfl rfl ?_)
      refine RP.p rfl (OpP.offT rfl rfl rfl ?_)
      refine RP.p rfl (op_pick_t (qT rfl) rfl ?_)
      refine pM rfl rfl ?_
      refine RP.p rfl (OpP.offT rfl rfl rfl ?_)
      refine RP.r rfl (OpR.offT rfl rfl rfl ?_)
      refine RP.p rfl (OpP.offT rfl rfl rfl ?_)
      refine RP.p rfl (op_pick_t (qT rfl) rfl ?_)
      refine pM rfl rfl ?_
      refine RP.p rfl (OpP.offT rfl rfl rfl ?_)
      refine RP.r rfl (OpR.offT rfl rfl rfl ?_)
      refine RP.p rfl (OpP.offT rfl rfl rfl ?_)
      refine RP.p rfl (op_pick_t (qT rfl) rfl ?_)
      refine pM rfl rfl ?_
      refine RP.e rfl (OpE.on' rfl rfl rfl (op_calls evs_nil (by kernel_rfl) (awU_spec hA) ?_))
      rintro v h' ⟨rfl, rfl⟩
      refine RP.p rfl (op_pick_t (qT rfl) (qT rfl) ?_)
      refine pA rfl rfl ?_
      refine RP.nil ?_
      exact Gives.ret0 (RS.one rfl (rfl))
    · by_cases g1 : Int.ofNat 1023 < q0
      · skip
        refine Gives.seq ?_
        refine Gives.region [.p 0, .r 1, .p 2, .p 3, .p 4, .r 5, .p 6, .p 7, .p 8, .p 9, .r 10, .p 11, .p 12, .p 13, .p 14, .r 15, .p 16, .p 17, .p 18, .e 19 [], .p 20, .p 21] (by kernel_rfl) ?_
        refine pF (off := 0) rfl rfl (by kernel_rfl) ?_
        refine pL rfl rfl (hB2.load (by kernel_rfl) rfl) ?_
        refine RP.p rfl (op_bin (qT rfl) (show ev _ _ = some (.int .i64 (.ofNat 0)) from rfl) (by first | exact bin_lss_f (by omega) | exact bin_lssI_f (by first | with_reducible assumption | omega)) ?_)
        refine pM rfl rfl ?_
        refine RP.p rfl (OpP.on' rfl rfl rfl (op_fieldAddr (off := 0) (qT rfl) (by kernel_rfl) ?_))
        refine RP.r rfl (OpR.on' rfl rfl rfl (op_load (qT rfl) (hB2.load (by kernel_rfl) rfl) ?_))
        refine RP.p rfl (OpP.on' rfl rfl rfl (op_bin (qT rfl) (show ev _ _ = some (.int .i64 (.ofNat 1023)) from rfl) (by first | exact bin_gtr_t (by omega) | exact bin_gtrI_t (by first | with_reducible assumption | omega)) ?_))
        refine RP.p rfl (op_pick_f (qT rfl) (qT rfl) ?_)
        refine pM rfl rfl ?_
        refine RP.p rfl (OpP.offT rfl rfl rfl ?_)
        refine RP.r rfl (OpR.offT rfl rfl rfl ?_)
        refine RP.p rfl (OpP.offT rfl rfl rfl ?_)
        refine RP.p rfl (op_pick_t (qT rfl) rfl ?_)
        refine pM rfl rfl ?_
        refine RP.p rfl (OpP.offT rfl rfl rfl ?_)
        refine RP.r rfl (OpR.offT rfl rfl rfl ?_)
        refine RP.p rfl (OpP.offT rfl rfl rfl ?_)
        refine RP.p rfl (op_pick_t (qT rfl) rfl ?_)
        refine pM rfl rfl ?_
        refine RP.e rfl (OpE.on' rfl rfl rfl (op_calls evs_nil (by kernel_rfl) (awU_spec hA) ?_))
        rintro v h' ⟨rfl, rfl⟩
        refine RP.p rfl (op_pick_t (qT rfl) (qT rfl) ?_)
        refine pA rfl rfl ?_
        refine RP.nil ?_
        exact Gives.ret0 (RS.one rfl (rfl))
      · by_cases g2 : q1 < Int.ofNat 0
        · skip
          refine Gives.seq ?_
          refine Gives.region [.p 0, .r 1, .p 2, .p 3, .p 4, .r 5, .p 6, .p 7, .p 8, .p 9, .r 10, .p 11, .p 12, .p 13, .p 14, .r 15, .p 16, .p 17, .p 18, .e 19 [], .p 20, .p 21] (by kernel_rfl) ?_
          refine pF (off := 0) rfl rfl (by kernel_rfl) ?_
          refine pL rfl rfl (hB2.load (by kernel_rfl) rfl) ?_
          refine RP.p rfl (op_bin (qT rfl) (show ev _ _ = some (.int .i64 (.ofNat 0)) from rfl) (by first | exact bin_lss_f (by omega) | exact bin_lssI_f (by first | with_reducible assumption | omega)) ?_)
          refine pM rfl rfl ?_
          refine RP.p rfl (OpP.on' rfl rfl rfl (op_fieldAddr (off := 0) (qT rfl) (by kernel_rfl) ?_))
          refine RP.r rfl (OpR.on' rfl rfl rfl (op_load (qT rfl) (hB2.load (by kernel_rfl) rfl) ?_))
          refine RP.p rfl (OpP.on' rfl rfl rfl (op_bin (qT rfl) (show ev _ _ = some (.int .i64 (.ofNat 1023)) from rfl) (by first | exact bin_gtr_f (by omega) | exact bin_gtrI_f (by first | with_reducible assumption | omega)) ?_))
          refine RP.p rfl (op_pick_f (qT rfl) (qT rfl) ?_)
          refine pM rfl rfl ?_
          refine RP.p rfl (OpP.on' rfl rfl rfl (op_fieldAddr (off := 1) (qT rfl) (by kernel_rfl) ?_))
          refine RP.r rfl (OpR.on' rfl rfl rfl (op_load (qT rfl) (hB2.load (by kernel_rfl) rfl) ?_))
          refine RP.p rfl (OpP.on' rfl rfl rfl (op_bin (qT rfl) (show ev _ _ = some (.int .i64 (.ofNat 0)) from rfl) (by first | exact bin_lss_t (by omega) | exact bin_lssI_t (by first | with_reducible assumption | omega)) ?_))
          refine RP.p rfl (op_pick_f (qT rfl) (qT rfl) ?_)
          refine pM rfl rfl ?_
          refine RP.p rfl (OpP.offT rfl rfl rfl ?_)
          refine RP.r rfl (OpR.offT rfl rfl rfl ?_)
          refine RP.p rfl (OpP.offT rfl rfl rfl ?_)
          refine RP.p rfl (op_pick_t (qT rfl) rfl ?_)
          refine pM rfl rfl ?_
          refine RP.e rfl (OpE.on' rfl rfl rfl (op_calls evs_nil (by kernel_rfl) (awU_spec hA) ?_))
          rintro v h' ⟨rfl, rfl⟩
          refine RP.p rfl (op_pick_t (qT rfl) (qT rfl) ?_)
          refine pA rfl rfl ?_
          refine RP.nil ?_
          exact Gives.ret0 (RS.one rfl (rfl))
        · have g3 : Int.ofNat 7 < q1 := by rcases hq with g | g | g | g; exact absurd g g0; exact absurd g g1; exact absurd g g2; exact g
          refine Gives.seq ?_
          refine Gives.region [.p 0, .r 1, .p 2, .p 3, .p 4, .r 5, .p 6, .p 7, .p 8, .p 9, .r 10, .p 11, .p 12, .p 13, .p 14, .r 15, .p 16, .p 17, .p 18, .e 19 [], .p 20, .p 21] (by kernel_rfl) ?_
          refine pF (off := 0) rfl rfl (by kernel_rfl) ?_
          refine pL rfl rfl (hB2.load (by kernel_rfl) rfl) ?_
          refine RP.p rfl (op_bin (qT rfl) (show ev _ _ = some (.int .i64 (.ofNat 0)) from rfl) (by first | exact bin_lss_f (by omega) | exact bin_lssI_f (by first | with_reducible assumption | omega)) ?_)
          refine pM rfl rfl ?_
          refine RP.p rfl (OpP.on' rfl rfl rfl (op_fieldAddr (off := 0) (qT rfl) (by kernel_rfl) ?_))
          refine RP.r rfl (OpR.on' rfl rfl rfl (op_load (qT rfl) (hB2.load (by kernel_rfl) rfl) ?_))
          refine RP.p rfl (OpP.on' rfl rfl rfl (op_bin (qT rfl) (show ev _ _ = some (.int .i64 (.ofNat 1023)) from rfl) (by first | exact bin_gtr_f (by omega) | exact bin_gtrI_f (by first | with_reducible assumption | omega)) ?_))
          refine RP.p rfl (op_pick_f (qT rfl) (qT rfl) ?_)
          refine pM rfl rfl ?_
          refine RP.p rfl (OpP.on' rfl rfl rfl (op_fieldAddr (off := 1) (qT rfl) (by kernel_rfl) ?_))
          refine RP.r rfl (OpR.on' rfl rfl rfl (op_load (qT rfl) (hB2.load (by kernel_rfl) rfl) ?_))
          refine RP.p rfl (OpP.on' rfl rfl rfl (op_bin (qT rfl) (show ev _ _ = some (.int .i64 (.ofNat 0)) from rfl) (by first | exact bin_lss_f (by omega) | exact bin_lssI_f (by first | with_reducible assumption | omega)) ?_))
          refine RP.p rfl (op_pick_f (qT rfl) (qT rfl) ?_)
          refine pM rfl rfl ?_
          refine RP.p rfl (OpP.on' rfl rfl rfl (op_fieldAddr (off := 1) (qT rfl) (by kernel_rfl) ?_))
          refine RP.r rfl (OpR.on' rfl rfl rfl (op_load (qT rfl) (hB2.load (by kernel_rfl) rfl) ?_))
          refine RP.p rfl (OpP.on' rfl rfl rfl (op_bin (qT rfl) (show ev _ _ = some (.int .i64 (.ofNat 7)) from rfl) (by first | exact bin_gtr_t (by omega) | exact bin_gtrI_t (by first | with_reducible assumption | omega)) ?_))
          refine RP.p rfl (op_pick_f (qT rfl) (qT rfl) ?_)
          refine pM rfl rfl ?_
          refine RP.e rfl (OpE.on' rfl rfl rfl (op_calls evs_nil (by kernel_rfl) (awU_spec hA) ?_))
          rintro v h' ⟨rfl, rfl⟩
          refine RP.p rfl (op_pick_t (qT rfl) (qT rfl) ?_)
          refine pA rfl rfl ?_
          refine RP.nil ?_
          exact Gives.ret0 (RS.one rfl (rfl))
end Go.Abs
