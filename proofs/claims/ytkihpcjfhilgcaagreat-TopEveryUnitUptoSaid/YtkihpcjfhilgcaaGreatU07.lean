/- The sending end hears a report. No condition. -/
import Derived.Test.YtkihpcjfhilgcaaGreatU06
namespace Go.Abs
open Go.Proofs
variable {X : Ext0} {S : Sums} {L : Nat} {h0 : H}
variable {bf size a fl fr cr ch m dd : Nat} {u : AV} {to re st now tm rp : Int} {us : List AV}
def HearPost (h0 : H) (bf size a fl fr cr ch m dd : Nat) (u : AV) (us : List AV) (h' : H) : Prop := Fr (fun c => c = bf) h0 h' ∧
  (FopC h' bf size u a fl fr cr ch ∨ ∃ u' fl', RowK h' 1 u' (m - dd) (us.drop dd) ∧ (∀ b, blkOf u' b → blkOf u b) ∧ (fl' = fl - dd ∨ fl' = 0) ∧ FopC h' bf size u' (a + dd) fl' (fr - dd) cr ch)
theorem hear_spec {d : Nat} (hS : SOk S) (hw : WF h0) (q : Int) {nx : Nat} {lo wa rx : Bool} (hU : RowK h0 1 u m us) (hbu : ∀ b, blkOf u b → ¬ b = bf) (hC : Cells h0 bf (FopL size u a fl fr cr ch to re st now tm rp)) (hch : ch ≤ 7) (hnx : nx < 256)
    (hdd : (nx + 256 - a % 256) % 256 = dd) (hd : dd ≤ m) (hdf : dd ≤ fr) (hfr : fr ≤ 127) (hfl : fl ≤ 127) (ha : a < 100000000000) :
    CS Tryz.prog X S L (d + 4) 19 [.ptr bf 0, .agg (wordL ch nx lo wa rx), zI q] h0 (fun _ h' => HearPost h0 bf size a fl fr cr ch m dd u us h') := by
  refine CS.of (rs := [.tmp 6]) (hS.none _ (by decide) (by decide)) Tryz.func19 rfl rfl ?_
  have hF : Fr (fun c => c = bf) h0 h0 := Fr.refl hw
  have hw0 := hw
  cases lo with
  | true =>
    refine Gives.seq ?_
    refine Gives.region [.p 0, .p 1] (by kernel_rfl) ?_
    refine RP.p rfl (op_boxC (qT rfl) hw (fun h1 b4 eb4 hB4 hF1 hn => ?_))
    have n_bf_b4 : bf ≠ b4 := by have := hC.lt hw; omega
    have l_b4 : h0.next ≤ b4 := by have := hF.next; omega
    replace hB4 : Cells h1 b4 (wordL ch nx true wa rx) := hB4
    replace hC := hC.fr hw hF1 (fun e => e)
    replace hF := hF.then hF1 (by intro c hc; first | exact .inl hc | exact .inl (.inl hc) | exact .inl (.inr hc) | exact hc.elim | (subst hc; right; omega))
    replace hw := hF1.wf
    clear hF1
    refine RP.p rfl (op_assign (show ev _ _ = some (.int .i64 (.ofNat 0)) from rfl) ?_)
    refine RP.nil ?_
    refine Gives.seq ?_
    refine Gives.seq ?_
    refine Gives.region [.p 0, .e 1 [], .p 2] (by kernel_rfl) ?_
    refine pM rfl rfl ?_
    refine RP.e rfl (op_calls (evs_cons (qT rfl) evs_nil) (by kernel_rfl) (usable39_spec hS hC) ?_)
    rintro v h' ⟨rfl, rfl⟩
    refine RP.p rfl (op_notT (qT rfl) ?_)
    refine RP.nil ?_
    refine Gives.else_ (qT rfl) ?_
    refine Gives.skip ?_
    refine Gives.seq ?_
    refine Gives.region [.p 0, .p 1, .e 2 []] (by kernel_rfl) ?_
    refine pM rfl rfl ?_
    refine pM rfl rfl ?_
    refine RP.e rfl (op_calls (evs_cons (qT rfl) (evs_cons (qT rfl) evs_nil)) (by kernel_rfl) (clock_spec hS hw q hC) ?_)
    rintro v h2 ⟨rfl, hC1, hF1⟩
    replace hB4 := hB4.fr hw hF1 (fun e => n_bf_b4.symm e)
    replace hF := hF.then hF1 (by intro c hc; first | exact .inl hc | exact .inl (.inl hc) | exact .inl (.inr hc) | exact hc.elim | (subst hc; right; omega))
    replace hw := hF1.wf
    replace hC := hC1
    refine RP.nil ?_
    refine Gives.seq ?_
    refine Gives.seq ?_
    refine Gives.region [.r 0, .e 1 [], .p 2, .p 3, .p 4, .r 5, .p 6, .p 7, .p 8, .r 9, .p 10, .p 11] (by kernel_rfl) ?_
    refine pL rfl rfl (hB4.loadG (m := 6) (vs := wordL ch nx true wa rx) (by kernel_rfl) (by kernel_rfl) rfl (Nat.le_of_ble_eq_true rfl)) ?_
    refine RP.e rfl (op_calls (evs_cons (qT rfl) evs_nil) (by kernel_rfl) (cvalid_spec hS hw hch hnx) ?_)
    rintro v h3 ⟨rfl, hF1⟩
    replace hC := hC.fr hw hF1 (fun e => e)
    replace hB4 := hB4.fr hw hF1 (fun e => e)
    replace hF := hF.then hF1 (by intro c hc; first | exact .inl hc | exact .inl (.inl hc) | exact .inl (.inr hc) | exact hc.elim | (subst hc; right; omega))
    replace hw := hF1.wf
    refine RP.p rfl (op_notT (qT rfl) ?_)
    refine pM rfl rfl ?_
    refine RP.p rfl (OpP.on' rfl rfl rfl (op_fieldAddr (off := 0) (qT rfl) (by kernel_rfl) ?_))
    refine RP.r rfl (OpR.on' rfl rfl rfl (op_load (qT rfl) (hB4.load (by kernel_rfl) rfl) ?_))
    refine RP.p rfl (OpP.on' rfl rfl rfl (op_move (qT rfl) ?_))
    refine RP.p rfl (OpP.on' rfl rfl rfl (op_nilCheck (qT rfl) ?_))
    refine RP.p rfl (OpP.on' rfl rfl rfl (op_fieldAddr (off := 7) (qT rfl) (by kernel_rfl) ?_))
    refine RP.r rfl (OpR.on' rfl rfl rfl (op_load (qT rfl) (hC.load (by kernel_rfl) rfl) ?_))
    refine RP.p rfl (OpP.on' rfl rfl rfl (op_bin (qT rfl) (qT rfl) (by first | exact bin_neq_f (by omega) | exact bin_neqI_f (by first | with_reducible assumption | omega)) ?_))
    refine RP.p rfl (op_pick_f (qT rfl) (qT rfl) ?_)
    refine RP.nil ?_
    refine Gives.else_ (qT rfl) ?_
    refine Gives.skip ?_
    refine Gives.seq ?_
    refine Gives.seq ?_
    refine Gives.region [.p 0, .r 1] (by kernel_rfl) ?_
    refine pF (off := 1) rfl rfl (by kernel_rfl) ?_
    refine pL rfl rfl (hB4.load (by kernel_rfl) rfl) ?_
    refine RP.nil ?_
    refine Gives.then_ (qT rfl) ?_
    refine Gives.seq ?_
    refine Gives.region [.p 0, .p 1, .p 2, .e 3 []] (by kernel_rfl) ?_
    refine pM rfl rfl ?_
    refine pN rfl rfl ?_
    refine pF (off := 10) rfl rfl (by kernel_rfl) ?_
    refine RP.e rfl (op_storeC (qT rfl) (show ev _ _ = some (.int .i64 (.ofNat 3)) from rfl) hw hC (by kernel_rfl) (by first | rfl | assumption) (Nat.le_of_ble_eq_true rfl) (fun h4 hC1 hF1 hn => ?_))
    replace hB4 := hB4.fr hw hF1 (fun e => n_bf_b4.symm e)
    replace hC := hC1
    replace hF := hF.then hF1 (by intro c hc; first | exact .inl hc | exact .inl (.inl hc) | exact .inl (.inr hc) | exact hc.elim | (subst hc; right; omega))
    replace hw := hF1.wf
    clear hF1 hn hC1
    refine RP.nil ?_
    refine Gives.seq ?_
    refine Gives.region [.p 0] (by kernel_rfl) ?_
    refine RP.p rfl (op_assign (show ev _ _ = some (.int .i64 (.ofNat 14)) from rfl) ?_)
    refine RP.nil ?_
    exact Gives.ret0 (RS.one rfl (⟨hF, .inl ⟨_, _, _, _, _, _, hC⟩⟩))
  | false =>
    refine Gives.seq ?_
    refine Gives.region [.p 0, .p 1] (by kernel_rfl) ?_
    refine RP.p rfl (op_boxC (qT rfl) hw (fun h1 b4 eb4 hB4 hF1 hn => ?_))
    have n_bf_b4 : bf ≠ b4 := by have := hC.lt hw; omega
    have l_b4 : h0.next ≤ b4 := by have := hF.next; omega
    replace hB4 : Cells h1 b4 (wordL ch nx false wa rx) := hB4
    replace hC := hC.fr hw hF1 (fun e => e)
    replace hF := hF.then hF1 (by intro c hc; first | exact .inl hc | exact .inl (.inl hc) | exact .inl (.inr hc) | exact hc.elim | (subst hc; right; omega))
    replace hw := hF1.wf
    clear hF1
    refine RP.p rfl (op_assign (show ev _ _ = some (.int .i64 (.ofNat 0)) from rfl) ?_)
    refine RP.nil ?_
    refine Gives.seq ?_
    refine Gives.seq ?_
    refine Gives.region [.p 0, .e 1 [], .p 2] (by kernel_rfl) ?_
    refine pM rfl rfl ?_
    refine RP.e rfl (op_calls (evs_cons (qT rfl) evs_nil) (by kernel_rfl) (usable39_spec hS hC) ?_)
    rintro v h' ⟨rfl, rfl⟩
    refine RP.p rfl (op_notT (qT rfl) ?_)
    refine RP.nil ?_
    refine Gives.else_ (qT rfl) ?_
    refine Gives.skip ?_
    refine Gives.seq ?_
    refine Gives.region [.p 0, .p 1, .e 2 []] (by kernel_rfl) ?_
    refine pM rfl rfl ?_
    refine pM rfl rfl ?_
    refine RP.e rfl (op_calls (evs_cons (qT rfl) (evs_cons (qT rfl) evs_nil)) (by kernel_rfl) (clock_spec hS hw q hC) ?_)
    rintro v h2 ⟨rfl, hC1, hF1⟩
    replace hB4 := hB4.fr hw hF1 (fun e => n_bf_b4.symm e)
    replace hF := hF.then hF1 (by intro c hc; first | exact .inl hc | exact .inl (.inl hc) | exact .inl (.inr hc) | exact hc.elim | (subst hc; right; omega))
    replace hw := hF1.wf
    replace hC := hC1
    refine RP.nil ?_
    refine Gives.seq ?_
    refine Gives.seq ?_
    refine Gives.region [.r 0, .e 1 [], .p 2, .p 3, .p 4, .r 5, .p 6, .p 7, .p 8, .r 9, .p 10, .p 11] (by kernel_rfl) ?_
    refine pL rfl rfl (hB4.loadG (m := 6) (vs := wordL ch nx false wa rx) (by kernel_rfl) (by kernel_rfl) rfl (Nat.le_of_ble_eq_true rfl)) ?_
    refine RP.e rfl (op_calls (evs_cons (qT rfl) evs_nil) (by kernel_rfl) (cvalid_spec hS hw hch hnx) ?_)
    rintro v h3 ⟨rfl, hF1⟩
    replace hC := hC.fr hw hF1 (fun e => e)
    replace hB4 := hB4.fr hw hF1 (fun e => e)
    replace hF := hF.then hF1 (by intro c hc; first | exact .inl hc | exact .inl (.inl hc) | exact .inl (.inr hc) | exact hc.elim | (subst hc; right; omega))
    replace hw := hF1.wf
    refine RP.p rfl (op_notT (qT rfl) ?_)
    refine pM rfl rfl ?_
    refine RP.p rfl (OpP.on' rfl rfl rfl (op_fieldAddr (off := 0) (qT rfl) (by kernel_rfl) ?_))
    refine RP.r rfl (OpR.on' rfl rfl rfl (op_load (qT rfl) (hB4.load (by kernel_rfl) rfl) ?_))
    refine RP.p rfl (OpP.on' rfl rfl rfl (op_move (qT rfl) ?_))
    refine RP.p rfl (OpP.on' rfl rfl rfl (op_nilCheck (qT rfl) ?_))
    refine RP.p rfl (OpP.on' rfl rfl rfl (op_fieldAddr (off := 7) (qT rfl) (by kernel_rfl) ?_))
    refine RP.r rfl (OpR.on' rfl rfl rfl (op_load (qT rfl) (hC.load (by kernel_rfl) rfl) ?_))
    refine RP.p rfl (OpP.on' rfl rfl rfl (op_bin (qT rfl) (qT rfl) (by first | exact bin_neq_f (by omega) | exact bin_neqI_f (by first | with_reducible assumption | omega)) ?_))
    refine RP.p rfl (op_pick_f (qT rfl) (qT rfl) ?_)
    refine RP.nil ?_
    refine Gives.else_ (qT rfl) ?_
    refine Gives.skip ?_
    refine Gives.seq ?_
    refine Gives.seq ?_
    refine Gives.region [.p 0, .r 1] (by kernel_rfl) ?_
    refine pF (off := 1) rfl rfl (by kernel_rfl) ?_
    refine pL rfl rfl (hB4.load (by kernel_rfl) rfl) ?_
    refine RP.nil ?_
    refine Gives.else_ (qT rfl) ?_
    refine Gives.skip ?_
    refine Gives.seq ?_
    refine Gives.region [.p 0, .p 1, .p 2, .p 3, .r 4, .p 5, .p 6, .r 7, .e 8 [], .p 9] (by kernel_rfl) ?_
    refine pM rfl rfl ?_
    refine pN rfl rfl ?_
    refine pF (off := 0) rfl rfl (by kernel_rfl) ?_
    refine pF (off := 2) rfl rfl (by kernel_rfl) ?_
    refine pL rfl rfl (hC.load (by kernel_rfl) rfl) ?_
    refine RP.p rfl (op_bin (qT rfl) (show ev _ _ = some (.int .i64 (.ofNat 256)) from rfl) (bin_rem (by omega)) ?_)
    refine pF (off := 5) rfl rfl (by kernel_rfl) ?_
    refine pL rfl rfl (hB4.load (by kernel_rfl) rfl) ?_
    refine RP.e rfl (op_calls (evs_cons (qT rfl) (evs_cons (qT rfl) (evs_cons (show ev _ _ = some (.int .i64 (.ofNat 8)) from rfl) evs_nil))) (by kernel_rfl) (dist_spec hS (Nat.mod_lt _ (by decide)) hnx) ?_)
    rintro v h' ⟨rfl, rfl⟩
    rw [hdd]
    refine pA rfl rfl ?_
    refine RP.nil ?_
    refine Gives.seq ?_
    refine Gives.seq ?_
    refine Gives.region [.p 0, .p 1, .p 2, .p 3, .p 4, .r 5, .p 6] (by kernel_rfl) ?_
    refine pM rfl rfl ?_
    refine pM rfl rfl ?_
    refine pN rfl rfl ?_
    refine pF (off := 0) rfl rfl (by kernel_rfl) ?_
    refine pF (off := 4) rfl rfl (by kernel_rfl) ?_
    refine pL rfl rfl (hC.load (by kernel_rfl) rfl) ?_
    refine RP.p rfl (op_bin (qT rfl) (qT rfl) (by first | exact bin_gtr_f (by omega) | exact bin_gtrI_f (by first | with_reducible assumption | omega)) ?_)
    refine RP.nil ?_
    refine Gives.else_ (qT rfl) ?_
    refine Gives.skip ?_
    refine Gives.seq ?_
    refine Gives.region [.p 0, .p 1, .p 2, .p 3, .e 4 []] (by kernel_rfl) ?_
    refine pM rfl rfl ?_
    refine pN rfl rfl ?_
    refine pF (off := 0) rfl rfl (by kernel_rfl) ?_
    refine pM rfl rfl ?_
    refine RP.e rfl (op_calls (evs_cons (qT rfl) (evs_cons (qT rfl) evs_nil)) (by kernel_rfl) (release_spec hS hw (hU.fr hw0 hF hbu) hbu hC hd hdf hfr hfl (by omega)) ?_)
    rintro v h4 ⟨rfl, ⟨u', hU', hsub, hC1⟩, hF1⟩
    have hbu' : ∀ b, blkOf u' b → ¬ b = bf := fun b hb => hbu b (hsub b hb)
    replace hB4 := hB4.fr hw hF1 (fun e => n_bf_b4.symm e)
    replace hF := hF.then hF1 (by intro c hc; first | exact .inl hc | exact .inl (.inl hc) | exact .inl (.inr hc) | exact hc.elim | (subst hc; right; omega))
    replace hw := hF1.wf
    replace hC := hC1
    refine RP.nil ?_
    refine Gives.seq ?_
    refine Gives.seq ?_
    refine Gives.region [.p 0, .p 1] (by kernel_rfl) ?_
    refine pM rfl rfl ?_
    refine RP.p rfl (op_bin (qT rfl) (show ev _ _ = some (.int .i64 (.ofNat 0)) from rfl) (by first | exact bin_gtrN | exact bin_gtr) ?_)
    refine RP.nil ?_
    refine Gives.mono (N := fun F h => F.at 0 = some (.ptr bf 0) ∧ F.at 4 = some (.ptr b4 0) ∧ WF h ∧ Fr (fun c => c = bf) h0 h ∧ Cells h b4 (wordL ch nx false wa rx) ∧ RowK h 1 u' (m - dd) (us.drop dd) ∧ ∃ now' tm' rp', Cells h bf (FopL size u' (a + dd) (fl - dd) (fr - dd) cr ch to re st now' tm' rp')) (B := _) ?_ (fun F h5 hJ => ?_) (fun _ _ _ g => g)
    · skip
      refine Gives.cond (qT rfl) (fun hb => ?_) (fun hb => ?_)
      · skip
        refine Gives.region [.p 0, .p 1, .p 2, .p 3, .p 4, .r 5, .p 6, .p 7, .e 8 [], .p 9, .p 10, .e 11 []] (by kernel_rfl) ?_
        refine pM rfl rfl ?_
        refine pM rfl rfl ?_
        refine pM rfl rfl ?_
        refine pN rfl rfl ?_
        refine pF (off := 12) rfl rfl (by kernel_rfl) ?_
        refine pL rfl rfl (hC.load (by kernel_rfl) rfl) ?_
        refine pN rfl rfl ?_
        refine pF (off := 14) rfl rfl (by kernel_rfl) ?_
        refine RP.e rfl (op_storeC (qT rfl) (show ev _ _ = some (.int .i64 (.ofNat 0)) from rfl) hw hC (by kernel_rfl) (by first | rfl | assumption) (Nat.le_of_ble_eq_true rfl) (fun h6 hC1 hF1 hn => ?_))
        replace hU' := hU'.fr hw hF1 hbu'
        replace hB4 := hB4.fr hw hF1 (fun e => n_bf_b4.symm e)
        replace hC := hC1
        replace hF := hF.then hF1 (by intro c hc; first | exact .inl hc | exact .inl (.inl hc) | exact .inl (.inr hc) | exact hc.elim | (subst hc; right; omega))
        replace hw := hF1.wf
        clear hF1 hn hC1
        refine pN rfl rfl ?_
        refine pF (off := 13) rfl rfl (by kernel_rfl) ?_
        refine RP.e rfl (op_storeC (qT rfl) (qT rfl) hw hC (by kernel_rfl) (by first | rfl | assumption) (Nat.le_of_ble_eq_true rfl) (fun h7 hC1 hF1 hn => ?_))
        replace hU' := hU'.fr hw hF1 hbu'
        replace hB4 := hB4.fr hw hF1 (fun e => n_bf_b4.symm e)
        replace hC := hC1
        replace hF := hF.then hF1 (by intro c hc; first | exact .inl hc | exact .inl (.inl hc) | exact .inl (.inr hc) | exact hc.elim | (subst hc; right; omega))
        replace hw := hF1.wf
        clear hF1 hn hC1
        refine RP.nil ?_
        exact ⟨rfl, rfl, hw, hF, hB4, hU', _, _, _, hC⟩
      · skip
        refine Gives.skip ?_
        exact ⟨rfl, rfl, hw, hF, hB4, hU', _, _, _, hC⟩
    clear hC hB4 hF hw hU'
    obtain ⟨f0, f4, hw, hF, hB4, hU', now1, tm1, rp1, hC⟩ := hJ
    refine Gives.seq ?_
    refine Gives.seq ?_
    refine Gives.region [.p 0, .r 1] (by kernel_rfl) ?_
    refine pF (off := 3) rfl f4 (by kernel_rfl) ?_
    refine pL rfl qS (hB4.load (by kernel_rfl) rfl) ?_
    refine RP.nil ?_
    refine Gives.mono (N := fun F h => F.at 0 = some (.ptr bf 0) ∧ F.at 4 = some (.ptr b4 0) ∧ WF h ∧ Fr (fun c => c = bf) h0 h ∧ Cells h b4 (wordL ch nx false wa rx) ∧ RowK h 1 u' (m - dd) (us.drop dd) ∧ ∃ fl' now' tm' rp', Cells h bf (FopL size u' (a + dd) fl' (fr - dd) cr ch to re st now' tm' rp') ∧ (fl' = fl - dd ∨ fl' = 0)) (B := _) ?_ (fun F h8 hJ => ?_) (fun _ _ _ g => g)
    · skip
      refine Gives.cond (qT qS) (fun hb => ?_) (fun hb => ?_)
      · skip
        refine Gives.region [.p 0, .p 1, .p 2, .e 3 []] (by kernel_rfl) ?_
        refine pM rfl (qN rfl (qN rfl f0)) ?_
        refine pN rfl qS ?_
        refine pF (off := 0) rfl qS (by kernel_rfl) ?_
        refine RP.e rfl (op_calls (evs_cons (qT qS) evs_nil) (by kernel_rfl) (repeat_spec hS hw hC) ?_)
        rintro v h9 ⟨rfl, hC1, hF1⟩
        replace hU' := hU'.fr hw hF1 hbu'
        replace hB4 := hB4.fr hw hF1 (fun e => n_bf_b4.symm e)
        replace hF := hF.then hF1 (by intro c hc; first | exact .inl hc | exact .inl (.inl hc) | exact .inl (.inr hc) | exact hc.elim | (subst hc; right; omega))
        replace hw := hF1.wf
        replace hC := hC1
        refine RP.nil ?_
        exact ⟨(by repeat (first | with_reducible (first | exact qS | assumption) | refine qN rfl ?_ | exact qO rfl)), (by repeat (first | with_reducible (first | exact qS | assumption) | refine qN rfl ?_ | exact qO rfl)), hw, hF, hB4, hU', _, _, _, _, hC, by simp⟩
      · skip
        refine Gives.skip ?_
        exact ⟨(by repeat (first | with_reducible (first | exact qS | assumption) | refine qN rfl ?_ | exact qO rfl)), (by repeat (first | with_reducible (first | exact qS | assumption) | refine qN rfl ?_ | exact qO rfl)), hw, hF, hB4, hU', _, _, _, _, hC, by simp⟩
    clear hC hB4 hF hw hU'
    obtain ⟨f0, f4, hw, hF, hB4, hU', fl1, now2, tm2, rp2, hC, hfl1⟩ := hJ
    skip
    by_cases h1 : st = Int.ofNat 1
    · skip
      refine Gives.seq ?_
      refine Gives.seq ?_
      refine Gives.region [.p 0, .p 1, .p 2, .r 3, .p 4, .p 5, .p 6, .p 7, .p 8, .r 9, .p 10, .p 11] (by kernel_rfl) ?_
      refine pM rfl f0 ?_
      refine pN rfl qS ?_
      refine pF (off := 10) rfl qS (by kernel_rfl) ?_
      refine pL rfl qS (hC.load (by kernel_rfl) rfl) ?_
      refine RP.p rfl (op_bin (qT qS) (show ev _ _ = some (.int .i64 (.ofNat 1)) from rfl) (by first | exact bin_eql_t (by omega) | exact bin_eqlI_t (by first | with_reducible assumption | omega)) ?_)
      refine pM rfl qS ?_
      refine RP.p rfl (OpP.offT rfl rfl qS ?_)
      refine RP.p rfl (OpP.offT rfl rfl (qN rfl qS) ?_)
      refine RP.p rfl (OpP.offT rfl rfl (qN rfl (qN rfl qS)) ?_)
      refine RP.r rfl (OpR.offT rfl rfl (qN rfl (qN rfl (qN rfl qS))) ?_)
      refine RP.p rfl (OpP.offT rfl rfl (qN rfl (qN rfl (qN rfl (qN rfl qS)))) ?_)
      refine RP.p rfl (op_pick_t (qT (qN rfl (qN rfl (qN rfl (qN rfl (qN rfl qS)))))) rfl ?_)
      refine RP.nil ?_
      refine Gives.mono (N := fun F h => F.at 0 = some (.ptr bf 0) ∧ F.at 4 = some (.ptr b4 0) ∧ WF h ∧ Fr (fun c => c = bf) h0 h ∧ Cells h b4 (wordL ch nx false wa rx) ∧ RowK h 1 u' (m - dd) (us.drop dd) ∧ ∃ fl' st' now' tm' rp', (fl' = fl - dd ∨ fl' = 0) ∧ Cells h bf (FopL size u' (a + dd) fl' (fr - dd) cr ch to re st' now' tm' rp')) (B := _) ?_ (fun F h1 hJ => ?_) (fun _ _ _ g => g)
      · skip
        refine Gives.then_ (qT qS) ?_
        refine Gives.seq ?_
        refine Gives.region [.p 0, .p 1, .p 2, .e 3 []] (by kernel_rfl) ?_
        refine pM rfl (by repeat (first | with_reducible (first | exact qS | assumption) | refine qN rfl ?_ | exact qO rfl)) ?_
        refine pN rfl qS ?_
        refine pF (off := 10) rfl qS (by kernel_rfl) ?_
        refine RP.e rfl (op_storeC (qT qS) (show ev _ _ = some (.int .i64 (.ofNat 1)) from rfl) hw hC (by kernel_rfl) (by first | rfl | assumption) (Nat.le_of_ble_eq_true rfl) (fun h2 hC1 hF1 hn => ?_))
        replace hU' := hU'.fr hw hF1 hbu'
        replace hB4 := hB4.fr hw hF1 (fun e => n_bf_b4.symm e)
        replace hC := hC1
        replace hF := hF.then hF1 (by intro c hc; first | exact .inl hc | exact .inl (.inl hc) | exact .inl (.inr hc) | exact hc.elim | (subst hc; right; omega))
        replace hw := hF1.wf
        clear hF1 hn hC1
        refine RP.nil ?_
        refine Gives.seq ?_
        refine Gives.region [.p 0, .r 1] (by kernel_rfl) ?_
        refine pF (off := 2) rfl (by repeat (first | with_reducible (first | exact qS | assumption) | refine qN rfl ?_ | exact qO rfl)) (by kernel_rfl) ?_
        refine pL rfl qS (hB4.load (by kernel_rfl) rfl) ?_
        refine RP.nil ?_
        refine Gives.cond (qT qS) (fun hb => ?_) (fun hb => ?_)
        · skip
          refine Gives.region [.p 0, .p 1, .p 2, .e 3 []] (by kernel_rfl) ?_
          refine pM rfl (by repeat (first | with_reducible (first | exact qS | assumption) | refine qN rfl ?_ | exact qO rfl)) ?_
          refine pN rfl qS ?_
          refine pF (off := 10) rfl qS (by kernel_rfl) ?_
          refine RP.e rfl (op_storeC (qT qS) (show ev _ _ = some (.int .i64 (.ofNat 2)) from rfl) hw hC (by kernel_rfl) (by first | rfl | assumption) (Nat.le_of_ble_eq_true rfl) (fun h3 hC1 hF1 hn => ?_))
          replace hU' := hU'.fr hw hF1 hbu'
          replace hB4 := hB4.fr hw hF1 (fun e => n_bf_b4.symm e)
          replace hC := hC1
          replace hF := hF.then hF1 (by intro c hc; first | exact .inl hc | exact .inl (.inl hc) | exact .inl (.inr hc) | exact hc.elim | (subst hc; right; omega))
          replace hw := hF1.wf
          clear hF1 hn hC1
          refine RP.nil ?_
          exact ⟨(by repeat (first | with_reducible (first | exact qS | assumption) | refine qN rfl ?_ | exact qO rfl)), (by repeat (first | with_reducible (first | exact qS | assumption) | refine qN rfl ?_ | exact qO rfl)), hw, hF, hB4, hU', _, _, _, _, _, hfl1, hC⟩
        · skip
          refine Gives.skip ?_
          exact ⟨(by repeat (first | with_reducible (first | exact qS | assumption) | refine qN rfl ?_ | exact qO rfl)), (by repeat (first | with_reducible (first | exact qS | assumption) | refine qN rfl ?_ | exact qO rfl)), hw, hF, hB4, hU', _, _, _, _, _, hfl1, hC⟩
      clear hC hB4 hF hw hU'
      obtain ⟨f0, f4, hw, hF, hB4, hU', fl2, st2, now2, tm2, rp2, hfl2, hC⟩ := hJ
      refine Gives.seq ?_
      refine Gives.region [.p 0] (by kernel_rfl) ?_
      refine RP.p rfl (op_assign (show ev _ _ = some (.int .i64 (.ofNat 0)) from rfl) ?_)
      refine RP.nil ?_
      exact Gives.ret0 (RS.one (by repeat (first | with_reducible (first | exact qS | assumption) | refine qN rfl ?_ | exact qO rfl)) (⟨hF, .inr ⟨u', fl2, hU', hsub, hfl2, _, _, _, _, _, _, hC⟩⟩))
    · skip
      refine Gives.seq ?_
      refine Gives.seq ?_
      refine Gives.region [.p 0, .p 1, .p 2, .r 3, .p 4, .p 5, .p 6, .p 7, .p 8, .r 9, .p 10, .p 11] (by kernel_rfl) ?_
      refine pM rfl f0 ?_
      refine pN rfl qS ?_
      refine pF (off := 10) rfl qS (by kernel_rfl) ?_
      refine pL rfl qS (hC.load (by kernel_rfl) rfl) ?_
      refine RP.p rfl (op_bin (qT qS) (show ev _ _ = some (.int .i64 (.ofNat 1)) from rfl) (by first | exact bin_eql_f (by omega) | exact bin_eqlI_f (by first | with_reducible assumption | omega)) ?_)
      refine pM rfl qS ?_
      refine RP.p rfl (OpP.on' rfl rfl qS (op_move (qT (qN rfl (qN rfl (qN rfl (qN rfl (qN rfl (qN rfl f0))))))) ?_))
      refine RP.p rfl (OpP.on' rfl rfl (qN rfl qS) (op_nilCheck (qT qS) ?_))
      refine RP.p rfl (OpP.on' rfl rfl (qN rfl (qN rfl qS)) (op_fieldAddr (off := 10) (qT qS) (by kernel_rfl) ?_))
      refine RP.r rfl (OpR.on' rfl rfl (qN rfl (qN rfl (qN rfl qS))) (op_load (qT qS) (hC.load (by kernel_rfl) rfl) ?_))
      refine RP.p rfl (OpP.on' rfl rfl (qN rfl (qN rfl (qN rfl (qN rfl qS)))) (op_bin (qT qS) (show ev _ _ = some (.int .i64 (.ofNat 2)) from rfl) (by first | exact bin_eqlN | exact bin_eql) ?_))
      refine RP.p rfl (op_pick_f (qT (qN rfl (qN rfl (qN rfl (qN rfl (qN rfl qS)))))) (qT qS) ?_)
      refine RP.nil ?_
      refine Gives.mono (N := fun F h => F.at 0 = some (.ptr bf 0) ∧ F.at 4 = some (.ptr b4 0) ∧ WF h ∧ Fr (fun c => c = bf) h0 h ∧ Cells h b4 (wordL ch nx false wa rx) ∧ RowK h 1 u' (m - dd) (us.drop dd) ∧ ∃ fl' st' now' tm' rp', (fl' = fl - dd ∨ fl' = 0) ∧ Cells h bf (FopL size u' (a + dd) fl' (fr - dd) cr ch to re st' now' tm' rp')) (B := _) ?_ (fun F h1 hJ => ?_) (fun _ _ _ g => g)
      · skip
        refine Gives.cond (qT qS) (fun hb => ?_) (fun hb => ?_)
        · skip
          refine Gives.seq ?_
          refine Gives.region [.p 0, .p 1, .p 2, .e 3 []] (by kernel_rfl) ?_
          refine pM rfl (by repeat (first | with_reducible (first | exact qS | assumption) | refine qN rfl ?_ | exact qO rfl)) ?_
          refine pN rfl qS ?_
          refine pF (off := 10) rfl qS (by kernel_rfl) ?_
          refine RP.e rfl (op_storeC (qT qS) (show ev _ _ = some (.int .i64 (.ofNat 1)) from rfl) hw hC (by kernel_rfl) (by first | rfl | assumption) (Nat.le_of_ble_eq_true rfl) (fun h2 hC1 hF1 hn => ?_))
          replace hU' := hU'.fr hw hF1 hbu'
          replace hB4 := hB4.fr hw hF1 (fun e => n_bf_b4.symm e)
          replace hC := hC1
          replace hF := hF.then hF1 (by intro c hc; first | exact .inl hc | exact .inl (.inl hc) | exact .inl (.inr hc) | exact hc.elim | (subst hc; right; omega))
          replace hw := hF1.wf
          clear hF1 hn hC1
          refine RP.nil ?_
          refine Gives.seq ?_
          refine Gives.region [.p 0, .r 1] (by kernel_rfl) ?_
          refine pF (off := 2) rfl (by repeat (first | with_reducible (first | exact qS | assumption) | refine qN rfl ?_ | exact qO rfl)) (by kernel_rfl) ?_
          refine pL rfl qS (hB4.load (by kernel_rfl) rfl) ?_
          refine RP.nil ?_
          refine Gives.cond (qT qS) (fun hb => ?_) (fun hb => ?_)
          · skip
            refine Gives.region [.p 0, .p 1, .p 2, .e 3 []] (by kernel_rfl) ?_
            refine pM rfl (by repeat (first | with_reducible (first | exact qS | assumption) | refine qN rfl ?_ | exact qO rfl)) ?_
            refine pN rfl qS ?_
            refine pF (off := 10) rfl qS (by kernel_rfl) ?_
            refine RP.e rfl (op_storeC (qT qS) (show ev _ _ = some (.int .i64 (.ofNat 2)) from rfl) hw hC (by kernel_rfl) (by first | rfl | assumption) (Nat.le_of_ble_eq_true rfl) (fun h3 hC1 hF1 hn => ?_))
            replace hU' := hU'.fr hw hF1 hbu'
            replace hB4 := hB4.fr hw hF1 (fun e => n_bf_b4.symm e)
            replace hC := hC1
            replace hF := hF.then hF1 (by intro c hc; first | exact .inl hc | exact .inl (.inl hc) | exact .inl (.inr hc) | exact hc.elim | (subst hc; right; omega))
            replace hw := hF1.wf
            clear hF1 hn hC1
            refine RP.nil ?_
            exact ⟨(by repeat (first | with_reducible (first | exact qS | assumption) | refine qN rfl ?_ | exact qO rfl)), (by repeat (first | with_reducible (first | exact qS | assumption) | refine qN rfl ?_ | exact qO rfl)), hw, hF, hB4, hU', _, _, _, _, _, hfl1, hC⟩
          · skip
            refine Gives.skip ?_
            exact ⟨(by repeat (first | with_reducible (first | exact qS | assumption) | refine qN rfl ?_ | exact qO rfl)), (by repeat (first | with_reducible (first | exact qS | assumption) | refine qN rfl ?_ | exact qO rfl)), hw, hF, hB4, hU', _, _, _, _, _, hfl1, hC⟩
        · skip
          refine Gives.skip ?_
          exact ⟨(by repeat (first | with_reducible (first | exact qS | assumption) | refine qN rfl ?_ | exact qO rfl)), (by repeat (first | with_reducible (first | exact qS | assumption) | refine qN rfl ?_ | exact qO rfl)), hw, hF, hB4, hU', _, _, _, _, _, hfl1, hC⟩
      clear hC hB4 hF hw hU'
      obtain ⟨f0, f4, hw, hF, hB4, hU', fl2, st2, now2, tm2, rp2, hfl2, hC⟩ := hJ
      refine Gives.seq ?_
      refine Gives.region [.p 0] (by kernel_rfl) ?_
      refine RP.p rfl (op_assign (show ev _ _ = some (.int .i64 (.ofNat 0)) from rfl) ?_)
      refine RP.nil ?_
      exact Gives.ret0 (RS.one (by repeat (first | with_reducible (first | exact qS | assumption) | refine qN rfl ?_ | exact qO rfl)) (⟨hF, .inr ⟨u', fl2, hU', hsub, hfl2, _, _, _, _, _, _, hC⟩⟩))
end Go.Abs
namespace Go.Abs
structure UInv (sl size a fl fr n : Nat) (ps qs : List Nat) : Prop where
  s1 : 1 ≤ size
  s : size ≤ 127
  f : fl ≤ fr
  fs : fr ≤ size
  u : a + fr ≤ sl
  an : a ≤ n
  na : n ≤ a + fr
  p : ∀ x ∈ ps, x < a + fr ∧ n ≤ x + 127
  pp : ps.Pairwise fun x y => x + 1 ≤ y + 127
  q : ∀ x ∈ qs, a ≤ x ∧ x ≤ n
  qq : qs.Pairwise fun x y => x ≤ y
variable {sl size a fl fr n x : Nat} {ps qs : List Nat}
theorem UInv.start {size : Nat} (h1 : 1 ≤ size) (h : size ≤ 127) : UInv 0 size 0 0 0 0 [] [] :=
  ⟨h1, h, Nat.le_refl _, Nat.zero_le _, Nat.le_refl _, Nat.le_refl _, Nat.le_refl _, fun x hx => (by cases hx), .nil, fun x hx => (by cases hx), .nil⟩
theorem UInv.send (h : UInv sl size a fl fr n ps qs) : UInv (sl + 1) size a fl fr n ps qs :=
  ⟨h.s1, h.s, h.f, h.fs, by have := h.u; omega, h.an, h.na, h.p, h.pp, h.q, h.qq⟩
theorem UInv.rep (h : UInv sl size a fl fr n ps qs) : UInv sl size a 0 fr n ps qs :=
  ⟨h.s1, h.s, Nat.zero_le _, h.fs, h.u, h.an, h.na, h.p, h.pp, h.q, h.qq⟩
theorem UInv.take (h : UInv sl size a fl fr n ps qs) (h1 : fl < size) (h2 : a + fl < sl) : UInv sl size a (fl + 1) (max fr (fl + 1)) n (ps ++ [a + fl]) qs := by
  have g1 := h.f
  have g2 := h.fs
  have g3 := h.na
  have g4 := h.s
  have g5 := h.u
  have g6 := h.an
  refine ⟨h.s1, h.s, by omega, by omega, by omega, g6, by omega, fun x hx => ?_, ?_, h.q, h.qq⟩
  · rcases List.mem_append.1 hx with hx | hx
    · have := h.p x hx; omega
    · obtain rfl : x = a + fl := by simpa using hx
      omega
  · refine List.pairwise_append.2 ⟨h.pp, List.pairwise_singleton _ _, fun x hx y hy => ?_⟩
    obtain rfl : y = a + fl := by simpa using hy
    have := h.p x hx
    omega
theorem UInv.lost {x : Nat} (h : UInv sl size a fl fr n (x :: ps) qs) : UInv sl size a fl fr n ps qs :=
  ⟨h.s1, h.s, h.f, h.fs, h.u, h.an, h.na, fun y hy => h.p y (List.mem_cons_of_mem _ hy), (List.pairwise_cons.1 h.pp).2, h.q, h.qq⟩
theorem UInv.head (h : UInv sl size a fl fr n (x :: ps) qs) : x < sl ∧ (x % 256 = n % 256 → x = n) := by
  have g1 := h.p x List.mem_cons_self
  have g2 := h.u
  have g3 := h.an
  have g4 := h.fs
  have g5 := h.s
  exact ⟨by omega, fun e => by omega⟩
theorem UInv.got (h : UInv sl size a fl fr n (n :: ps) qs) : UInv sl size a fl fr (n + 1) ps qs := by
  have g1 := h.p n List.mem_cons_self
  have g2 := h.an
  refine ⟨h.s1, h.s, h.f, h.fs, h.u, by omega, by omega, fun y hy => ?_, (List.pairwise_cons.1 h.pp).2, fun y hy => ?_, h.qq⟩
  · have k1 := h.p y (List.mem_cons_of_mem _ hy)
    have k2 := (List.pairwise_cons.1 h.pp).1 y hy
    omega
  · have := h.q y hy; omega
theorem UInv.told (h : UInv sl size a fl fr n ps qs) : UInv sl size a fl fr n ps (qs ++ [n]) := by
  refine ⟨h.s1, h.s, h.f, h.fs, h.u, h.an, h.na, h.p, h.pp, fun x hx => ?_, ?_⟩
  · rcases List.mem_append.1 hx with hx | hx
    · exact h.q x hx
    · obtain rfl : x = n := by simpa using hx
      exact ⟨h.an, Nat.le_refl _⟩
  · refine List.pairwise_append.2 ⟨h.qq, List.pairwise_singleton _ _, fun x hx y hy => ?_⟩
    obtain rfl : y = n := by simpa using hy
    exact (h.q x hx).2
theorem UInv.lostq {x : Nat} (h : UInv sl size a fl fr n ps (x :: qs)) : UInv sl size a fl fr n ps qs :=
  ⟨h.s1, h.s, h.f, h.fs, h.u, h.an, h.na, h.p, h.pp, fun y hy => h.q y (List.mem_cons_of_mem _ hy), (List.pairwise_cons.1 h.qq).2⟩
theorem UInv.headq {x : Nat} (h : UInv sl size a fl fr n ps (x :: qs)) : a ≤ x ∧ x - a ≤ fr ∧ fr ≤ 127 := by
  have g1 := h.q x List.mem_cons_self
  have g2 := h.na
  have g3 := h.fs
  have g4 := h.s
  omega
theorem UInv.heard {x : Nat} (h : UInv sl size a fl fr n ps (x :: qs)) : UInv sl size x (fl - (x - a)) (fr - (x - a)) n ps qs := by
  have g1 := h.q x List.mem_cons_self
  have g2 := h.na
  have g3 := h.fs
  have g4 := h.s
  have g5 := h.u
  have g6 := h.f
  refine ⟨h.s1, h.s, by omega, by omega, by omega, by omega, by omega, fun y hy => ?_, h.pp, fun y hy => ?_, (List.pairwise_cons.1 h.qq).2⟩
  · have := h.p y hy; omega
  · exact ⟨(List.pairwise_cons.1 h.qq).1 y hy, (h.q y (List.mem_cons_of_mem _ hy)).2⟩
end Go.Abs
namespace Go.Abs
open Go.Proofs
def strU (l : List Nat) : ByteArray := ⟨(l.map fun n => UInt8.ofNat n).toArray⟩
theorem bytesA_u8U : ∀ l : List Nat, bytesA (u8L l) = some (l.map Int.ofNat)
  | [] => rfl
  | x :: l => by
    have ih := bytesA_u8U l
    show (match bytesA (u8L l) with | some ns => some (Int.ofNat x :: ns) | none => none) = _
    rw [ih]; rfl
theorem strU_eq (l : List Nat) : (⟨((l.map Int.ofNat).map fun n => UInt8.ofNat n.toNat).toArray⟩ : ByteArray) = strU l := by
  unfold strU
  rw [List.map_map]
  rfl
section
variable {P : Program} {call : CallA} {n : Nat} {F : Fm} {h : H} {K : Fm → H → Prop} {ops : Array Oper}
variable {ty : TypeId} {pos : String} {af : Array Edge} {chk : List Nat} {d : Nat} {v : AV} {t : TypeId} {x y : Operand} {k : IntKind}
theorem op_strU {src dst e : TypeId} {l : List Nat} (hx : ev F x = some v) (hi : Img h v l) (hs : Tryz.prog.underlying src = some (.slice e)) (hd : Tryz.prog.underlying dst = some .string) (he : Tryz.prog.underlying e = some (.int .u8)) (hz : szo Tryz.prog e = some 1)
    (hk : K (F.put d (.str (strU l))) h) : OpR Tryz.prog ops ⟨some d, .convert src dst x, ty, pos, af, none⟩ F h K := by
  refine OpR.val (v := .str (strU l)) ?_ hk
  show dop Tryz.prog F h (.convert src dst x) = _
  rcases hi with ⟨rfl, rfl⟩ | ⟨b, o, cp, ex, rfl, hcp, hlb⟩
  · simp only [dop, hs, hd, hx, he, hz]; rfl
  · rcases Nat.eq_zero_or_pos l.length with h0 | h0
    · obtain rfl := List.eq_nil_of_length_eq_zero h0
      simp only [dop, hs, hd, hx, he, hz]; rfl
    · have e1 : (Nat.blt 0 l.length && Nat.ble l.length cp) = true := by simp [h0, hcp]
      have hag : isAg Tryz.prog 5 = some false := by kernel_rfl
      have hlast := hlb (l.length - 1) _ (List.getElem?_eq_getElem (show l.length - 1 < l.length by omega))
      have key : ∀ c : Tr AV, (∀ i x, l[i]? = some x → c.at (o + i) = some (.int .u8 (.ofNat x))) → gets c o l.length = some (u8L l) := fun c hc => by
        have := gets_all (c := c) (l := u8L l) (o := o) fun i hi => by
          rw [u8L_length] at hi
          rw [hc i _ (List.getElem?_eq_getElem hi)]
          unfold u8L
          rw [List.getElem?_map, List.getElem?_eq_getElem hi]; rfl
        rwa [u8L_length] at this
      have hb : (∃ m c, h.obj b = some (.cells m c) ∧ o + l.length ≤ m ∧ gets c o l.length = some (u8L l)) ∨ ∃ c, h.obj b = some (.ro c) ∧ gets c o l.length = some (u8L l) := by
        cases hob : h.obj b with
        | none => unfold loadA at hlast; rw [hob] at hlast; cases hlast
        | some ob =>
          cases ob with
          | cells m c =>
            have hh : ∀ i x, l[i]? = some x → o + i < m ∧ c.at (o + i) = some (.int .u8 (.ofNat x)) := fun i x hx => by
              have h1 := hlb i x hx
              unfold loadA at h1
              simp only [hob, hag, Bool.cond_eq_ite] at h1
              split at h1
              · rename_i hlt; exact ⟨by simpa using hlt, h1⟩
              · cases h1
            exact .inl ⟨m, c, rfl, by have := (hh (l.length - 1) _ (List.getElem?_eq_getElem (show l.length - 1 < l.length by omega))).1; omega, key c fun i x hx => (hh i x hx).2⟩
          | ro c =>
            refine .inr ⟨c, rfl, key c fun i x hx => ?_⟩
            have h1 := hlb i x hx
            unfold loadA at h1
            simp only [hob, hag] at h1
            exact h1
          | _ => unfold loadA at hlast; simp only [hob] at hlast; cases hlast
      rcases hb with ⟨m, c, hob, hm, hg⟩ | ⟨c, hob, hg⟩
      · have e2 : Nat.ble (o + l.length) m = true := Nat.ble_eq_true_of_le hm
        simp only [dop, hs, hd, hx, he, hz, e1, cond_true, hob, e2, hg, bytesA_u8U, strU_eq]
      · simp only [dop, hs, hd, hx, he, hz, e1, cond_true, hob, hg, bytesA_u8U, strU_eq]
theorem bin_eql_strU {s : ByteArray} : binA P .eql t x y (.str s) (.str s) = some (.bool true) := by
  have : binOp .eql t (.string s) (.string s) = .pure (.bool (s.toList == s.toList)) := rfl
  simp only [binA, scal, this, beq_self_eq_true]; rfl
end
section
variable {P : Program} {X : Ext0} {call : CallA} {L n : Nat} {F : Fm} {h h' : H} {K : Fm → H → Prop} {ops : Array Oper}
variable {ty : TypeId} {pos : String} {af : Array Edge} {chk : List Nat} {d : Nat} {v : AV} {t : TypeId} {x y : Operand} {k : IntKind}
theorem Img.lt {v : AV} {l : List Nat} (r : Img h v l) (w : WF h) (h1 : 1 ≤ l.length) : ∀ b, blkOf v b → b < h.next := by
  obtain ⟨b, o, cp, ex, rfl⟩ := r.slice h1
  intro b' hb
  obtain rfl : b' = b := hb
  rcases r with ⟨e, _⟩ | ⟨b2, o2, cp2, ex2, e, _, hl⟩
  · cases e
  · cases e
    rcases lb_obj hl h1 with ⟨m, c, hob, _, _⟩ | ⟨c, hob, _⟩ <;> exact w.lt hob
theorem bin_neq_strU {s : ByteArray} : binA P .neq t x y (.str s) (.str s) = some (.bool false) := by
  have : binOp .neq t (.string s) (.string s) = .pure (.bool (!(s.toList == s.toList))) := rfl
  simp only [binA, scal, this, beq_self_eq_true]; rfl
theorem loadA_frU {B : Nat → Prop} (w : WF h) (f : Fr B h h') {b o : Nat} {v : AV} (hl : loadA P h t b o = some v) (hn : ¬ B b) : loadA P h' t b o = some v := by
  unfold loadA at hl ⊢
  cases hob : h.obj b with
  | none => rw [hob] at hl; cases hl
  | some ob => rw [f.get w hob hn]; rw [hob] at hl; exact hl
theorem appendA_ofK {s u : AV} {e : TypeId} {i : TypeInfo} {z : AV} {m q : Nat} {news : List AV} (hu : P.underlying t = some (.slice e)) (hi : P.info? e = some i) (hz : zer P e = some z) (hz1 : z.cells.length = q) (hi1 : i.size = q) (hq : 0 < q)
    (hs : srcA P h t q u = some (m, news)) (ha : appendTo h q i.bytes s m news = some (v, h')) : appendA P h [t, t] s u = some (v, h') := by
  have e1 : (Nat.beq q q && Nat.blt 0 q) = true := by simp [hq]
  simp only [appendA, hu, hi, hz, hz1, hi1, e1, cond_true, hs, ha]
theorem srcA_oneK {b q : Nat} {c : Tr AV} {ex : Bool} {e : TypeId} {cs : List AV} (hu : P.underlying t = some (.slice e)) (hq : 0 < q) (hb : h.obj b = some (.cells q c)) (hl : cs.length = q) (hc : ∀ i, i < q → c.at i = cs[i]?) (hw : cs.all AV.one = true) : srcA P h t q (.slice b 0 1 1 q ex) = some (1, cs) := by
  have e1 : (Nat.beq q q && Nat.ble 1 1) = true := by simp
  have e2 : Nat.beq (1 * q) 0 = false := beq_ne (by omega)
  have e3 : Nat.ble (0 + 1 * q) q = true := Nat.ble_eq_true_of_le (by omega)
  have e4 : gets c 0 (1 * q) = some cs := by
    rw [Nat.one_mul]
    exact gets_of hl fun i hi => by rw [Nat.zero_add]; exact hc i hi
  simp only [srcA, hu, e1, e2, e3, e4, hb, cond_true, cond_false, hw]
end
theorem info56 : ∃ i, Tryz.prog.info? 56 = some i ∧ i.size = 6 ∧ i.bytes ≤ 64 := by
  have h : (Tryz.prog.info? 56).map (fun i => (i.size, Nat.ble i.bytes 64)) = some (6, true) := by kernel_rfl
  cases hi : Tryz.prog.info? 56 with
  | none => rw [hi] at h; cases h
  | some i => rw [hi] at h; simp only [Option.map_some, Option.some.injEq, Prod.mk.injEq] at h; exact ⟨i, rfl, h.1, Nat.le_of_ble_eq_true h.2⟩
theorem info62 : ∃ i, Tryz.prog.info? 62 = some i ∧ i.size = 6 ∧ i.bytes ≤ 64 := by
  have h : (Tryz.prog.info? 62).map (fun i => (i.size, Nat.ble i.bytes 64)) = some (6, true) := by kernel_rfl
  cases hi : Tryz.prog.info? 62 with
  | none => rw [hi] at h; cases h
  | some i => rw [hi] at h; simp only [Option.map_some, Option.some.injEq, Prod.mk.injEq] at h; exact ⟨i, rfl, h.1, Nat.le_of_ble_eq_true h.2⟩
variable {h h' : H} {col col' : Nat → Nat} {B : Nat → Prop}
def Dv (h : H) (col : Nat → Nat) (v : AV) (l : List Nat) : Prop := Img h v l ∧ (1 ≤ l.length ∧ l.length ≤ 1017) ∧ ∀ b, blkOf v b → col b = 0
theorem Dv.step {v : AV} {l : List Nat} (r : Dv h col v l) (w : WF h) (f : Fr B h h') (hB : ∀ b, B b → b < h.next → col b ≠ 0) (hc : ∀ b, b < h.next → col' b = col b) : Dv h' col' v l :=
  ⟨r.1.frC w f fun b hb e => hB b e (r.1.lt w r.2.1.1 b hb) (r.2.2 b hb), r.2.1, fun b hb => (hc b (r.1.lt w r.2.1.1 b hb)).trans (r.2.2 b hb)⟩
def RowC (h : H) (col : Nat → Nat) (c k : Nat) (v : AV) (n : Nat) (fl : List AV) : Prop := RowK h k v n fl ∧ ∀ b, blkOf v b → col b = c
theorem RowC.step {c k n : Nat} {v : AV} {fl : List AV} (r : RowC h col c k v n fl) (w : WF h) (f : Fr B h h') (hB : ∀ b, B b → b < h.next → col b ≠ c) (hc : ∀ b, b < h.next → col' b = col b) : RowC h' col' c k v n fl :=
  ⟨r.1.fr w f fun b hb e => hB b e (r.1.lt w b hb) (r.2 b hb), fun b hb => (hc b (r.1.lt w b hb)).trans (r.2 b hb)⟩
def FopQ (h : H) (col : Nat → Nat) (bf size : Nat) (u : AV) (a fl fr cr ch : Nat) : Prop := FopC h bf size u a fl fr cr ch ∧ col bf = 1 ∧ bf < h.next
theorem FopC.fr {bf size a fl fr cr ch : Nat} {u : AV} (r : FopC h bf size u a fl fr cr ch) (w : WF h) (f : Fr B h h') (hn : ¬ B bf) : FopC h' bf size u a fl fr cr ch := by
  obtain ⟨to, re, st, now, tm, rp, hC⟩ := r
  exact ⟨to, re, st, now, tm, rp, hC.fr w f hn⟩
theorem FopC.lt {bf size a fl fr cr ch : Nat} {u : AV} (r : FopC h bf size u a fl fr cr ch) (w : WF h) : bf < h.next := by
  obtain ⟨to, re, st, now, tm, rp, hC⟩ := r
  exact hC.lt w
theorem FopQ.step {bf size a fl fr cr ch : Nat} {u : AV} (r : FopQ h col bf size u a fl fr cr ch) (w : WF h) (f : Fr B h h') (hB : ∀ b, B b → b < h.next → col b ≠ 1) (hc : ∀ b, b < h.next → col' b = col b) : FopQ h' col' bf size u a fl fr cr ch :=
  ⟨r.1.fr w f fun e => hB _ e r.2.2 r.2.1, (hc _ r.2.2).trans r.2.1, Nat.lt_of_lt_of_le r.2.2 f.next⟩
def FarmQ (h : H) (col : Nat → Nat) (bg cr wi ch nx : Nat) : Prop := (∃ lo wa re, Cells h bg (FarmL cr wi ch nx lo wa re 0)) ∧ col bg = 2 ∧ bg < h.next
theorem FarmQ.step {bg cr wi ch nx : Nat} (r : FarmQ h col bg cr wi ch nx) (w : WF h) (f : Fr B h h') (hB : ∀ b, B b → b < h.next → col b ≠ 2) (hc : ∀ b, b < h.next → col' b = col b) : FarmQ h' col' bg cr wi ch nx := by
  obtain ⟨⟨lo, wa, re, hC⟩, h1, h2⟩ := r
  exact ⟨⟨lo, wa, re, hC.fr w f fun e => hB _ e h2 h1⟩, (hc _ h2).trans h1, Nat.lt_of_lt_of_le h2 f.next⟩
def at_ (C : List (List Nat)) (x : Nat) : List Nat := C[x]?.getD []
def UnD (h : H) (col : Nat → Nat) (a : Nat) (C : List (List Nat)) (us : List AV) : Prop := ∀ j, a + j < C.length → ∃ dv, us[j]? = some dv ∧ Dv h col dv (at_ C (a + j))
theorem UnD.step {a : Nat} {C : List (List Nat)} {us : List AV} (r : UnD h col a C us) (w : WF h) (f : Fr B h h') (hB : ∀ b, B b → b < h.next → col b ≠ 0) (hc : ∀ b, b < h.next → col' b = col b) : UnD h' col' a C us := fun j hj => by
  obtain ⟨dv, h1, h2⟩ := r j hj
  exact ⟨dv, h1, h2.step w f hB hc⟩
def FrD (h : H) (col : Nat → Nat) (cr ch : Nat) (C : List (List Nat)) (ps : List Nat) (pf : List AV) : Prop := ∀ j x, ps[j]? = some x → ∃ dv, (pf.drop (j * 6)).take 6 = frameL cr ch (x % 256) dv ∧ Dv h col dv (at_ C x)
theorem FrD.step {cr ch : Nat} {C : List (List Nat)} {ps : List Nat} {pf : List AV} (r : FrD h col cr ch C ps pf) (w : WF h) (f : Fr B h h') (hB : ∀ b, B b → b < h.next → col b ≠ 0) (hc : ∀ b, b < h.next → col' b = col b) : FrD h' col' cr ch C ps pf := fun j x hj => by
  obtain ⟨dv, h1, h2⟩ := r j x hj
  exact ⟨dv, h1, h2.step w f hB hc⟩
def WdD (ch : Nat) (qs : List Nat) (qf : List AV) : Prop := ∀ j x, qs[j]? = some x → ∃ lo wa re, (qf.drop (j * 6)).take 6 = wordL ch (x % 256) lo wa re
structure UnSt (h0 h : H) (col : Nat → Nat) (bf bg size wi cr ch : Nat) (u sv up dn : AV) (us ss pf qf : List AV) (a fl fr n : Nat) (C : List (List Nat)) (ps qs : List Nat) : Prop where
  w : WF h
  f0 : Fr (fun _ => False) h0 h
  old : ∀ b, b < h0.next → col b = 0
  qf_ : FopQ h col bf size u a fl fr cr ch
  qg_ : FarmQ h col bg cr wi ch (n % 256)
  pu : RowC h col 3 1 u (C.length - a) us
  pud : UnD h col a C us
  rs : RowC h col 4 1 sv C.length ss
  rsd : UnD h col 0 C ss
  pp : RowC h col 5 6 up ps.length pf
  ppd : FrD h col cr ch C ps pf
  pq : RowC h col 6 6 dn qs.length qf
  pqd : WdD ch qs qf
  inv : UInv C.length size a fl fr n ps qs
theorem at_app_lt {C : List (List Nat)} {l : List Nat} {x : Nat} (hx : x < C.length) : at_ (C ++ [l]) x = at_ C x := by
  unfold at_; rw [List.getElem?_append_left hx]
theorem at_app_eq {C : List (List Nat)} {l : List Nat} : at_ (C ++ [l]) C.length = l := by
  unfold at_; rw [List.getElem?_append_right (Nat.le_refl _)]; simp
def colN (h : H) (col g : Nat → Nat) (b : Nat) : Nat := if b < h.next then col b else g b
theorem colN_old {g : Nat → Nat} : ∀ b, b < h.next → colN h col g b = col b := fun _b hb => if_pos hb
theorem colN_new {g : Nat → Nat} {b : Nat} (hb : h.next ≤ b) : colN h col g b = g b := if_neg (by omega)
end Go.Abs
