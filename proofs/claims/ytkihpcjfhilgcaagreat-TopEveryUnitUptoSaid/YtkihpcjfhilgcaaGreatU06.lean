/- The sending end is asked for a frame. No condition. -/
import Derived.Test.YtkihpcjfhilgcaaGreatU05
namespace Go.Abs
open Go.Proofs
variable {X : Ext0} {S : Sums} {L : Nat} {h0 : H}
variable {bf size a fl fr cr ch m : Nat} {u : AV} {to re st now tm rp : Int} {us : List AV}
def FopC (h : H) (bf size : Nat) (u : AV) (a fl fr cr ch : Nat) : Prop := ∃ to re st now tm rp, Cells h bf (FopL size u a fl fr cr ch to re st now tm rp)
def Units (h : H) (bf m : Nat) (us : List AV) (D : Nat → List Nat) : Prop := ∀ j, j < m → ∃ dv, us[j]? = some dv ∧ Img h dv (D j) ∧ (∀ b, blkOf dv b → ¬ b = bf) ∧ 1 ≤ (D j).length ∧ (D j).length ≤ 1017
def zero6 : List AV := [.bool false, .bool false, nI 0, nI 0, nI 0, .snil]
def NextPost (h0 : H) (bf size a fl fr cr ch m : Nat) (u : AV) (D : Nat → List Nat) (v : AV) (h' : H) : Prop := Fr (fun c => c = bf) h0 h' ∧
  ((v = .tup [.agg zero6, .bool false] ∧ FopC h' bf size u a fl fr cr ch) ∨
   ∃ f1 v', (f1 = fl ∨ f1 = 0) ∧ f1 < size ∧ f1 < m ∧ v = .tup [.agg (frameL cr ch ((a + f1) % 256) v'), .bool true] ∧ Dt h' h0.next v' (D f1) ∧ FopC h' bf size u a (f1 + 1) (max fr (f1 + 1)) cr ch)
theorem next_spec {d : Nat} (hS : SOk S) (hw : WF h0) (q : Int) {D : Nat → List Nat} (hU : RowK h0 1 u m us) (hbu : ∀ b, blkOf u b → ¬ b = bf) (hD : Units h0 bf m us D) (hC : Cells h0 bf (FopL size u a fl fr cr ch to re st now tm rp)) (hs1 : 1 ≤ size) (hs2 : size ≤ 127) (hlt : a < 100000000000) :
    CS Tryz.prog X S L (d + 3) 16 [.ptr bf 0, zI q] h0 (NextPost h0 bf size a fl fr cr ch m u D) := by
  refine CS.of (rs := [.cell 4 56, .tmp 5]) (hS.none _ (by decide) (by decide)) Tryz.func16 rfl rfl ?_
  have hF : Fr (fun c => c = bf) h0 h0 := Fr.refl hw
  have hw0 := hw
  refine Gives.seq ?_
  refine Gives.region [.p 0, .p 1] (by kernel_rfl) ?_
  refine RP.p rfl (op_allocC (v := .agg [.bool false, .bool false, .int .i64 (.ofNat 0), .int .i64 (.ofNat 0), .int .i64 (.ofNat 0), .snil]) (by kernel_rfl) hw (fun h1 b4 eb4 hB4 hF1 hn => ?_))
  have n_bf_b4 : bf ≠ b4 := by have := hC.lt hw; omega
  have l_b4 : h0.next ≤ b4 := by have := hF.next; omega
  replace hB4 : Cells h1 b4 ([.bool false, .bool false, nI 0, nI 0, nI 0, .snil]) := hB4
  replace hC := hC.fr hw hF1 (fun e => e)
  replace hF := hF.then hF1 (by intro c hc; first | exact .inl hc | exact .inl (.inl hc) | exact .inl (.inr hc) | exact hc.elim | (subst hc; right; omega))
  replace hw := hF1.wf
  clear hF1
  refine RP.p rfl (op_assign rfl ?_)
  refine RP.nil ?_
  refine Gives.seq ?_
  refine Gives.seq ?_
  refine Gives.region [.p 0, .e 1 [], .p 2] (by kernel_rfl) ?_
  refine pM rfl rfl ?_
  refine RP.e rfl (op_calls (evs_cons (qT rfl) evs_nil) (by kernel_rfl) (usable39_spec hS hC) ?_)
  rintro v h' ⟨rfl, rfl⟩
  refine RP.p rfl (op_notT (qT rfl) ?_)
  refine RP.nil ?_
  refine Gives.else_ (qT rfl) ?_
  refine Gives.skip ?_
  refine Gives.seq ?_
  refine Gives.region [.p 0, .p 1, .e 2 []] (by kernel_rfl) ?_
  refine pM rfl rfl ?_
  refine pM rfl rfl ?_
  refine RP.e rfl (op_calls (evs_cons (qT rfl) (evs_cons (qT rfl) evs_nil)) (by kernel_rfl) (clock_spec hS hw q hC) ?_)
  rintro v h2 ⟨rfl, hC1, hF1⟩
  replace hB4 := hB4.fr hw hF1 (fun e => n_bf_b4.symm e)
  replace hF := hF.then hF1 (by intro c hc; first | exact .inl hc | exact .inl (.inl hc) | exact .inl (.inr hc) | exact hc.elim | (subst hc; right; omega))
  replace hw := hF1.wf
  replace hC := hC1
  refine RP.nil ?_
  refine Gives.seq ?_
  refine Gives.seq ?_
  refine Gives.region [.p 0, .p 1, .p 2, .r 3, .p 4, .p 5] (by kernel_rfl) ?_
  refine pM rfl rfl ?_
  refine pN rfl rfl ?_
  refine pF (off := 11) rfl rfl (by kernel_rfl) ?_
  refine pL rfl rfl (hC.load (by kernel_rfl) rfl) ?_
  refine RP.p rfl (op_len_nil (qT rfl) Tryz.underlying50 ?_)
  refine RP.p rfl (op_bin (qT rfl) (show ev _ _ = some (.int .i64 (.ofNat 0)) from rfl) (by first | exact bin_gtr_f (by omega) | exact bin_gtrI_f (by first | with_reducible assumption | omega)) ?_)
  refine RP.nil ?_
  refine Gives.else_ (qT rfl) ?_
  refine Gives.skip ?_
  skip
  by_cases h1 : st = Int.ofNat 1
  · by_cases h2 : m = 0
    ·
      refine Gives.seq ?_
      refine Gives.seq ?_
      refine Gives.region [.p 0, .p 1, .p 2, .r 3, .p 4, .p 5, .p 6, .p 7, .p 8, .p 9, .r 10, .p 11, .p 12, .p 13] (by kernel_rfl) ?_
      refine pM rfl rfl ?_
      refine pN rfl rfl ?_
      refine pF (off := 10) rfl rfl (by kernel_rfl) ?_
      refine pL rfl rfl (hC.load (by kernel_rfl) rfl) ?_
      refine RP.p rfl (op_bin (qT rfl) (show ev _ _ = some (.int .i64 (.ofNat 1)) from rfl) (by first | exact bin_neq_f (by omega) | exact bin_neqI_f (by first | with_reducible assumption | omega)) ?_)
      refine pM rfl rfl ?_
      refine RP.p rfl (OpP.on' rfl rfl rfl (op_move (qT rfl) ?_))
      refine RP.p rfl (OpP.on' rfl rfl rfl (op_nilCheck (qT rfl) ?_))
      refine RP.p rfl (OpP.on' rfl rfl rfl (op_fieldAddr (off := 0) (qT rfl) (by kernel_rfl) ?_))
      refine RP.p rfl (OpP.on' rfl rfl rfl (op_fieldAddr (off := 1) (qT rfl) (by kernel_rfl) ?_))
      refine RP.r rfl (OpR.on' rfl rfl rfl (op_load (qT rfl) (hC.load (by kernel_rfl) rfl) ?_))
      refine RP.p rfl (OpP.on' rfl rfl rfl (op_len_row (qT rfl) (hU.fr hw0 hF hbu) Tryz.underlying49 ?_))
      refine RP.p rfl (OpP.on' rfl rfl rfl (op_bin (qT rfl) (show ev _ _ = some (.int .i64 (.ofNat 0)) from rfl) (by first | exact bin_eql_t (by omega) | exact bin_eqlI_t (by first | with_reducible assumption | omega)) ?_))
      refine RP.p rfl (op_pick_f (qT rfl) (qT rfl) ?_)
      refine RP.nil ?_
      refine Gives.then_ (qT rfl) ?_
      refine Gives.seq ?_
      refine Gives.region [.p 0, .e 1 [], .p 2] (by kernel_rfl) ?_
      refine RP.p rfl (op_build (z := .agg [.bool false, .bool false, .int .i64 (.ofNat 0), .int .i64 (.ofNat 0), .int .i64 (.ofNat 0), .snil]) (cs := [.bool false, .bool false, .int .i64 (.ofNat 0), .int .i64 (.ofNat 0), .int .i64 (.ofNat 0), .snil]) (by kernel_rfl) Tryz.underlying56 evParts_nil (by kernel_rfl) (by kernel_rfl) ?_)
      refine RP.e rfl (op_storeW (m := 6) (qT rfl) (qT rfl) hw hB4 (by kernel_rfl) rfl rfl (by first | rfl | assumption) (fun h1 hC1 hF1 hn => ?_))
      replace hC := hC.fr hw hF1 (fun e => n_bf_b4 e)
      replace hB4 := hC1
      replace hF := hF.then hF1 (by intro c hc; first | exact .inl hc | exact .inl (.inl hc) | exact .inl (.inr hc) | exact hc.elim | (subst hc; right; omega))
      replace hw := hF1.wf
      clear hF1 hn hC1
      refine RP.p rfl (op_assign rfl ?_)
      refine RP.nil ?_
      exact Gives.ret0 (RS.cell2 rfl (hB4.loadG (m := 6) (by kernel_rfl) (by kernel_rfl) rfl (Nat.le_of_ble_eq_true rfl)) rfl (⟨hF, .inl ⟨rfl, _, _, _, _, _, _, hC⟩⟩))
    · by_cases h3 : fl < size ∧ fl < m
      · obtain ⟨hfs, hfm⟩ := h3
        obtain ⟨dv, hg, hI, hnb, hl1, hl2⟩ := hD fl hfm
        refine Gives.seq ?_
        refine Gives.seq ?_
        refine Gives.region [.p 0, .p 1, .p 2, .r 3, .p 4, .p 5, .p 6, .p 7, .p 8, .p 9, .r 10, .p 11, .p 12, .p 13] (by kernel_rfl) ?_
        refine pM rfl rfl ?_
        refine pN rfl rfl ?_
        refine pF (off := 10) rfl rfl (by kernel_rfl) ?_
        refine pL rfl rfl (hC.load (by kernel_rfl) rfl) ?_
        refine RP.p rfl (op_bin (qT rfl) (show ev _ _ = some (.int .i64 (.ofNat 1)) from rfl) (by first | exact bin_neq_f (by omega) | exact bin_neqI_f (by first | with_reducible assumption | omega)) ?_)
        refine pM rfl rfl ?_
        refine RP.p rfl (OpP.on' rfl rfl rfl (op_move (qT rfl) ?_))
        refine RP.p rfl (OpP.on' rfl rfl rfl (op_nilCheck (qT rfl) ?_))
        refine RP.p rfl (OpP.on' rfl rfl rfl (op_fieldAddr (off := 0) (qT rfl) (by kernel_rfl) ?_))
        refine RP.p rfl (OpP.on' rfl rfl rfl (op_fieldAddr (off := 1) (qT rfl) (by kernel_rfl) ?_))
        refine RP.r rfl (OpR.on' rfl rfl rfl (op_load (qT rfl) (hC.load (by kernel_rfl) rfl) ?_))
        refine RP.p rfl (OpP.on' rfl rfl rfl (op_len_row (qT rfl) (hU.fr hw0 hF hbu) Tryz.underlying49 ?_))
        refine RP.p rfl (OpP.on' rfl rfl rfl (op_bin (qT rfl) (show ev _ _ = some (.int .i64 (.ofNat 0)) from rfl) (by first | exact bin_eql_f (by omega) | exact bin_eqlI_f (by first | with_reducible assumption | omega)) ?_))
        refine RP.p rfl (op_pick_f (qT rfl) (qT rfl) ?_)
        refine RP.nil ?_
        refine Gives.else_ (qT rfl) ?_
        refine Gives.skip ?_
        refine Gives.seq ?_
        refine Gives.seq ?_
        refine Gives.region [.p 0, .p 1, .p 2, .e 3 [], .p 4] (by kernel_rfl) ?_
        refine pM rfl rfl ?_
        refine pN rfl rfl ?_
        refine pF (off := 0) rfl rfl (by kernel_rfl) ?_
        refine RP.e rfl (op_calls (evs_cons (qT rfl) evs_nil) (by kernel_rfl) (waitT_spec hS (hU.fr hw0 hF hbu) hC hfs hfm) ?_)
        rintro v h' ⟨rfl, rfl⟩
        refine RP.p rfl (op_notT (qT rfl) ?_)
        refine RP.nil ?_
        refine Gives.else_ (qT rfl) ?_
        refine Gives.skip ?_
        refine Gives.seq ?_
        refine Gives.region [.p 0, .p 1, .p 2, .e 3 [], .p 4, .p 5, .p 6, .p 7, .p 8] (by kernel_rfl) ?_
        refine pM rfl rfl ?_
        refine pN rfl rfl ?_
        refine pF (off := 0) rfl rfl (by kernel_rfl) ?_
        refine RP.e rfl (op_calls (evs_cons (qT rfl) evs_nil) (by kernel_rfl) (take44_spec hS hw (hU.fr hw0 hF hbu) hC hfm hg (hI.frC hw0 hF hnb) hl1 hl2 (by omega)) ?_)
        rintro v h1 ⟨⟨v', rfl, hDD⟩, hC1, hF1⟩
        have hDb_bf : ∀ b, blkOf v' b → ¬ b = bf := fun b hb e => by { have := (hDD.2 b hb).1; have := hC.lt hw; omega }
        have hDb_b4 : ∀ b, blkOf v' b → ¬ b = b4 := fun b hb e => by { have := (hDD.2 b hb).1; have := hB4.lt hw; omega }
        replace hDD : Dt _ h0.next v' _ := ⟨hDD.1, fun b hb => ⟨Nat.le_trans hF.next (hDD.2 b hb).1, (hDD.2 b hb).2⟩⟩
        replace hB4 := hB4.fr hw hF1 (fun e => n_bf_b4.symm e)
        replace hF := hF.then hF1 (by intro c hc; first | exact .inl hc | exact .inl (.inl hc) | exact .inl (.inr hc) | exact hc.elim | (subst hc; right; omega))
        replace hw := hF1.wf
        replace hC := hC1
        refine pM rfl rfl ?_
        refine RP.p rfl (op_extract (qT rfl) rfl ?_)
        refine RP.p rfl (op_extract (qT rfl) rfl ?_)
        refine pA rfl rfl ?_
        refine pA rfl rfl ?_
        refine RP.nil ?_
        refine Gives.seq ?_
        refine Gives.region [.p 0, .p 1, .p 2, .p 3, .r 4, .p 5, .p 6, .e 7 []] (by kernel_rfl) ?_
        refine pM rfl rfl ?_
        refine pM rfl rfl ?_
        refine pN rfl rfl ?_
        refine pF (off := 12) rfl rfl (by kernel_rfl) ?_
        refine pL rfl rfl (hC.load (by kernel_rfl) rfl) ?_
        refine pN rfl rfl ?_
        refine pF (off := 13) rfl rfl (by kernel_rfl) ?_
        refine RP.e rfl (op_storeC (qT rfl) (qT rfl) hw hC (by kernel_rfl) (by first | rfl | assumption) (Nat.le_of_ble_eq_true rfl) (fun h2 hC1 hF1 hn => ?_))
        replace hDD := hDD.fr hw hF1 hDb_bf
        replace hB4 := hB4.fr hw hF1 (fun e => n_bf_b4.symm e)
        replace hC := hC1
        replace hF := hF.then hF1 (by intro c hc; first | exact .inl hc | exact .inl (.inl hc) | exact .inl (.inr hc) | exact hc.elim | (subst hc; right; omega))
        replace hw := hF1.wf
        clear hF1 hn hC1
        refine RP.nil ?_
        refine Gives.seq ?_
        refine Gives.region [.p 0, .p 1, .p 2, .r 3, .p 4, .p 5, .p 6, .r 7, .p 8, .p 9, .p 10, .e 11 [], .p 12] (by kernel_rfl) ?_
        refine pM rfl rfl ?_
        refine pN rfl rfl ?_
        refine pF (off := 6) rfl rfl (by kernel_rfl) ?_
        refine pL rfl rfl (hC.load (by kernel_rfl) rfl) ?_
        refine pM rfl rfl ?_
        refine pN rfl rfl ?_
        refine pF (off := 7) rfl rfl (by kernel_rfl) ?_
        refine pL rfl rfl (hC.load (by kernel_rfl) rfl) ?_
        refine pM rfl rfl ?_
        refine pM rfl rfl ?_
        have hone : (frameL cr ch ((a + fl) % 256) v').all AV.one = true := by { obtain ⟨_, _, _, _, e⟩ := hDD.1.slice hl1; rw [e]; rfl }
        have hvs := hDD.1.slice hl1
        refine RP.p rfl (op_build (z := .agg [.bool false, .bool false, nI 0, nI 0, nI 0, .snil]) (cs := frameL cr ch ((a + fl) % 256) v') (by kernel_rfl) Tryz.underlying56 (evParts_cons (qT rfl) (evParts_cons (qT rfl) (evParts_cons (qT rfl) (evParts_cons (qT rfl) evParts_nil)))) (by obtain ⟨_, _, _, _, e⟩ := hvs; rw [e]; kernel_rfl) (by kernel_rfl) ?_)
        refine RP.e rfl (op_storeW (m := 6) (qT rfl) (qT rfl) hw hB4 (by kernel_rfl) rfl rfl (by first | rfl | assumption) (fun h3 hC1 hF1 hn => ?_))
        replace hDD := hDD.fr hw hF1 hDb_b4
        replace hC := hC.fr hw hF1 (fun e => n_bf_b4 e)
        replace hB4 := hC1
        replace hF := hF.then hF1 (by intro c hc; first | exact .inl hc | exact .inl (.inl hc) | exact .inl (.inr hc) | exact hc.elim | (subst hc; right; omega))
        replace hw := hF1.wf
        clear hF1 hn hC1
        refine RP.p rfl (op_assign rfl ?_)
        refine RP.nil ?_
        exact Gives.ret0 (RS.cell2 rfl (hB4.loadG (m := 6) (by kernel_rfl) (by kernel_rfl) rfl (Nat.le_of_ble_eq_true rfl)) rfl (⟨hF, .inr ⟨fl, v', .inl rfl, hfs, hfm, rfl, hDD, _, _, _, _, _, _, hC⟩⟩))
      ·
        by_cases h5 : clk now q < IntKind.i64.wrap (tm + to)
        ·
          refine Gives.seq ?_
          refine Gives.seq ?_
          refine Gives.region [.p 0, .p 1, .p 2, .r 3, .p 4, .p 5, .p 6, .p 7, .p 8, .p 9, .r 10, .p 11, .p 12, .p 13] (by kernel_rfl) ?_
          refine pM rfl rfl ?_
          refine pN rfl rfl ?_
          refine pF (off := 10) rfl rfl (by kernel_rfl) ?_
          refine pL rfl rfl (hC.load (by kernel_rfl) rfl) ?_
          refine RP.p rfl (op_bin (qT rfl) (show ev _ _ = some (.int .i64 (.ofNat 1)) from rfl) (by first | exact bin_neq_f (by omega) | exact bin_neqI_f (by first | with_reducible assumption | omega)) ?_)
          refine pM rfl rfl ?_
          refine RP.p rfl (OpP.on' rfl rfl rfl (op_move (qT rfl) ?_))
          refine RP.p rfl (OpP.on' rfl rfl rfl (op_nilCheck (qT rfl) ?_))
          refine RP.p rfl (OpP.on' rfl rfl rfl (op_fieldAddr (off := 0) (qT rfl) (by kernel_rfl) ?_))
          refine RP.p rfl (OpP.on' rfl rfl rfl (op_fieldAddr (off := 1) (qT rfl) (by kernel_rfl) ?_))
          refine RP.r rfl (OpR.on' rfl rfl rfl (op_load (qT rfl) (hC.load (by kernel_rfl) rfl) ?_))
          refine RP.p rfl (OpP.on' rfl rfl rfl (op_len_row (qT rfl) (hU.fr hw0 hF hbu) Tryz.underlying49 ?_))
          refine RP.p rfl (OpP.on' rfl rfl rfl (op_bin (qT rfl) (show ev _ _ = some (.int .i64 (.ofNat 0)) from rfl) (by first | exact bin_eql_f (by omega) | exact bin_eqlI_f (by first | with_reducible assumption | omega)) ?_))
          refine RP.p rfl (op_pick_f (qT rfl) (qT rfl) ?_)
          refine RP.nil ?_
          refine Gives.else_ (qT rfl) ?_
          refine Gives.skip ?_
          refine Gives.seq ?_
          refine Gives.seq ?_
          refine Gives.region [.p 0, .p 1, .p 2, .e 3 [], .p 4] (by kernel_rfl) ?_
          refine pM rfl rfl ?_
          refine pN rfl rfl ?_
          refine pF (off := 0) rfl rfl (by kernel_rfl) ?_
          refine RP.e rfl (op_calls (evs_cons (qT rfl) evs_nil) (by kernel_rfl) (waitF_spec hS (hU.fr hw0 hF hbu) hC h3) ?_)
          rintro v h' ⟨rfl, rfl⟩
          refine RP.p rfl (op_notF (qT rfl) ?_)
          refine RP.nil ?_
          refine Gives.then_ (qT rfl) ?_
          refine Gives.seq ?_
          refine Gives.seq ?_
          refine Gives.region [.p 0, .p 1, .p 2, .r 3, .p 4, .p 5, .p 6, .r 7, .p 8, .p 9, .p 10, .r 11, .p 12, .p 13] (by kernel_rfl) ?_
          refine pM rfl rfl ?_
          refine pN rfl rfl ?_
          refine pF (off := 12) rfl rfl (by kernel_rfl) ?_
          refine pL rfl rfl (hC.load (by kernel_rfl) rfl) ?_
          refine pM rfl rfl ?_
          refine pN rfl rfl ?_
          refine pF (off := 13) rfl rfl (by kernel_rfl) ?_
          refine pL rfl rfl (hC.load (by kernel_rfl) rfl) ?_
          refine pM rfl rfl ?_
          refine pN rfl rfl ?_
          refine pF (off := 8) rfl rfl (by kernel_rfl) ?_
          refine pL rfl rfl (hC.load (by kernel_rfl) rfl) ?_
          refine RP.p rfl (op_bin (qT rfl) (qT rfl) (by first | exact bin_add (by have e1 : topK .i64 = 9223372036854775808 := rfl; have e2 : topK .u32 = 4294967296 := rfl; have e3 : topK .u64 = 18446744073709551616 := rfl; have e4 : topK .u8 = 256 := rfl; have e5 : topK .u16 = 65536 := rfl; omega) | exact bin_addI) ?_)
          refine RP.p rfl (op_bin (qT rfl) (qT rfl) (by first | exact bin_lss_t (by omega) | exact bin_lssI_t (by first | with_reducible assumption | omega)) ?_)
          refine RP.nil ?_
          refine Gives.then_ (qT rfl) ?_
          refine Gives.seq ?_
          refine Gives.region [.p 0, .e 1 [], .p 2] (by kernel_rfl) ?_
          refine RP.p rfl (op_build (z := .agg [.bool false, .bool false, .int .i64 (.ofNat 0), .int .i64 (.ofNat 0), .int .i64 (.ofNat 0), .snil]) (cs := [.bool false, .bool false, .int .i64 (.ofNat 0), .int .i64 (.ofNat 0), .int .i64 (.ofNat 0), .snil]) (by kernel_rfl) Tryz.underlying56 evParts_nil (by kernel_rfl) (by kernel_rfl) ?_)
          refine RP.e rfl (op_storeW (m := 6) (qT rfl) (qT rfl) hw hB4 (by kernel_rfl) rfl rfl (by first | rfl | assumption) (fun h1 hC1 hF1 hn => ?_))
          replace hC := hC.fr hw hF1 (fun e => n_bf_b4 e)
          replace hB4 := hC1
          replace hF := hF.then hF1 (by intro c hc; first | exact .inl hc | exact .inl (.inl hc) | exact .inl (.inr hc) | exact hc.elim | (subst hc; right; omega))
          replace hw := hF1.wf
          clear hF1 hn hC1
          refine RP.p rfl (op_assign rfl ?_)
          refine RP.nil ?_
          exact Gives.ret0 (RS.cell2 rfl (hB4.loadG (m := 6) (by kernel_rfl) (by kernel_rfl) rfl (Nat.le_of_ble_eq_true rfl)) rfl (⟨hF, .inl ⟨rfl, _, _, _, _, _, _, hC⟩⟩))
        · by_cases h6 : rp = re
          ·
            refine Gives.seq ?_
            refine Gives.seq ?_
            refine Gives.region [.p 0, .p 1, .p 2, .r 3, .p 4, .p 5, .p 6, .p 7, .p 8, .p 9, .r 10, .p 11, .p 12, .p 13] (by kernel_rfl) ?_
            refine pM rfl rfl ?_
            refine pN rfl rfl ?_
            refine pF (off := 10) rfl rfl (by kernel_rfl) ?_
            refine pL rfl rfl (hC.load (by kernel_rfl) rfl) ?_
            refine RP.p rfl (op_bin (qT rfl) (show ev _ _ = some (.int .i64 (.ofNat 1)) from rfl) (by first | exact bin_neq_f (by omega) | exact bin_neqI_f (by first | with_reducible assumption | omega)) ?_)
            refine pM rfl rfl ?_
            refine RP.p rfl (OpP.on' rfl rfl rfl (op_move (qT rfl) ?_))
            refine RP.p rfl (OpP.on' rfl rfl rfl (op_nilCheck (qT rfl) ?_))
            refine RP.p rfl (OpP.on' rfl rfl rfl (op_fieldAddr (off := 0) (qT rfl) (by kernel_rfl) ?_))
            refine RP.p rfl (OpP.on' rfl rfl rfl (op_fieldAddr (off := 1) (qT rfl) (by kernel_rfl) ?_))
            refine RP.r rfl (OpR.on' rfl rfl rfl (op_load (qT rfl) (hC.load (by kernel_rfl) rfl) ?_))
            refine RP.p rfl (OpP.on' rfl rfl rfl (op_len_row (qT rfl) (hU.fr hw0 hF hbu) Tryz.underlying49 ?_))
            refine RP.p rfl (OpP.on' rfl rfl rfl (op_bin (qT rfl) (show ev _ _ = some (.int .i64 (.ofNat 0)) from rfl) (by first | exact bin_eql_f (by omega) | exact bin_eqlI_f (by first | with_reducible assumption | omega)) ?_))
            refine RP.p rfl (op_pick_f (qT rfl) (qT rfl) ?_)
            refine RP.nil ?_
            refine Gives.else_ (qT rfl) ?_
            refine Gives.skip ?_
            refine Gives.seq ?_
            refine Gives.seq ?_
            refine Gives.region [.p 0, .p 1, .p 2, .e 3 [], .p 4] (by kernel_rfl) ?_
            refine pM rfl rfl ?_
            refine pN rfl rfl ?_
            refine pF (off := 0) rfl rfl (by kernel_rfl) ?_
            refine RP.e rfl (op_calls (evs_cons (qT rfl) evs_nil) (by kernel_rfl) (waitF_spec hS (hU.fr hw0 hF hbu) hC h3) ?_)
            rintro v h' ⟨rfl, rfl⟩
            refine RP.p rfl (op_notF (qT rfl) ?_)
            refine RP.nil ?_
            refine Gives.then_ (qT rfl) ?_
            refine Gives.seq ?_
            refine Gives.seq ?_
            refine Gives.region [.p 0, .p 1, .p 2, .r 3, .p 4, .p 5, .p 6, .r 7, .p 8, .p 9, .p 10, .r 11, .p 12, .p 13] (by kernel_rfl) ?_
            refine pM rfl rfl ?_
            refine pN rfl rfl ?_
            refine pF (off := 12) rfl rfl (by kernel_rfl) ?_
            refine pL rfl rfl (hC.load (by kernel_rfl) rfl) ?_
            refine pM rfl rfl ?_
            refine pN rfl rfl ?_
            refine pF (off := 13) rfl rfl (by kernel_rfl) ?_
            refine pL rfl rfl (hC.load (by kernel_rfl) rfl) ?_
            refine pM rfl rfl ?_
            refine pN rfl rfl ?_
            refine pF (off := 8) rfl rfl (by kernel_rfl) ?_
            refine pL rfl rfl (hC.load (by kernel_rfl) rfl) ?_
            refine RP.p rfl (op_bin (qT rfl) (qT rfl) (by first | exact bin_add (by have e1 : topK .i64 = 9223372036854775808 := rfl; have e2 : topK .u32 = 4294967296 := rfl; have e3 : topK .u64 = 18446744073709551616 := rfl; have e4 : topK .u8 = 256 := rfl; have e5 : topK .u16 = 65536 := rfl; omega) | exact bin_addI) ?_)
            refine RP.p rfl (op_bin (qT rfl) (qT rfl) (by first | exact bin_lss_f (by omega) | exact bin_lssI_f (by first | with_reducible assumption | omega)) ?_)
            refine RP.nil ?_
            refine Gives.else_ (qT rfl) ?_
            refine Gives.skip ?_
            refine Gives.seq ?_
            refine Gives.seq ?_
            refine Gives.region [.p 0, .p 1, .p 2, .r 3, .p 4, .p 5, .p 6, .r 7, .p 8] (by kernel_rfl) ?_
            refine pM rfl rfl ?_
            refine pN rfl rfl ?_
            refine pF (off := 14) rfl rfl (by kernel_rfl) ?_
            refine pL rfl rfl (hC.load (by kernel_rfl) rfl) ?_
            refine pM rfl rfl ?_
            refine pN rfl rfl ?_
            refine pF (off := 9) rfl rfl (by kernel_rfl) ?_
            refine pL rfl rfl (hC.load (by kernel_rfl) rfl) ?_
            refine RP.p rfl (op_bin (qT rfl) (qT rfl) (by first | exact bin_eql_t (by omega) | exact bin_eqlI_t (by first | with_reducible assumption | omega)) ?_)
            refine RP.nil ?_
            refine Gives.then_ (qT rfl) ?_
            refine Gives.seq ?_
            refine Gives.region [.p 0, .p 1, .p 2, .e 3 []] (by kernel_rfl) ?_
            refine pM rfl rfl ?_
            refine pN rfl rfl ?_
            refine pF (off := 10) rfl rfl (by kernel_rfl) ?_
            refine RP.e rfl (op_storeC (qT rfl) (show ev _ _ = some (.int .i64 (.ofNat 4)) from rfl) hw hC (by kernel_rfl) (by first | rfl | assumption) (Nat.le_of_ble_eq_true rfl) (fun h1 hC1 hF1 hn => ?_))
            replace hB4 := hB4.fr hw hF1 (fun e => n_bf_b4.symm e)
            replace hC := hC1
            replace hF := hF.then hF1 (by intro c hc; first | exact .inl hc | exact .inl (.inl hc) | exact .inl (.inr hc) | exact hc.elim | (subst hc; right; omega))
            replace hw := hF1.wf
            clear hF1 hn hC1
            refine RP.nil ?_
            refine Gives.seq ?_
            refine Gives.region [.p 0, .e 1 [], .p 2] (by kernel_rfl) ?_
            refine RP.p rfl (op_build (z := .agg [.bool false, .bool false, .int .i64 (.ofNat 0), .int .i64 (.ofNat 0), .int .i64 (.ofNat 0), .snil]) (cs := [.bool false, .bool false, .int .i64 (.ofNat 0), .int .i64 (.ofNat 0), .int .i64 (.ofNat 0), .snil]) (by kernel_rfl) Tryz.underlying56 evParts_nil (by kernel_rfl) (by kernel_rfl) ?_)
            refine RP.e rfl (op_storeW (m := 6) (qT rfl) (qT rfl) hw hB4 (by kernel_rfl) rfl rfl (by first | rfl | assumption) (fun h2 hC1 hF1 hn => ?_))
            replace hC := hC.fr hw hF1 (fun e => n_bf_b4 e)
            replace hB4 := hC1
            replace hF := hF.then hF1 (by intro c hc; first | exact .inl hc | exact .inl (.inl hc) | exact .inl (.inr hc) | exact hc.elim | (subst hc; right; omega))
            replace hw := hF1.wf
            clear hF1 hn hC1
            refine RP.p rfl (op_assign rfl ?_)
            refine RP.nil ?_
            exact Gives.ret0 (RS.cell2 rfl (hB4.loadG (m := 6) (by kernel_rfl) (by kernel_rfl) rfl (Nat.le_of_ble_eq_true rfl)) rfl (⟨hF, .inl ⟨rfl, _, _, _, _, _, _, hC⟩⟩))
          · have hfm : 0 < m := by omega
            obtain ⟨dv, hg, hI, hnb, hl1, hl2⟩ := hD 0 hfm
            refine Gives.seq ?_
            refine Gives.seq ?_
            refine Gives.region [.p 0, .p 1, .p 2, .r 3, .p 4, .p 5, .p 6, .p 7, .p 8, .p 9, .r 10, .p 11, .p 12, .p 13] (by kernel_rfl) ?_
            refine pM rfl rfl ?_
            refine pN rfl rfl ?_
            refine pF (off := 10) rfl rfl (by kernel_rfl) ?_
            refine pL rfl rfl (hC.load (by kernel_rfl) rfl) ?_
            refine RP.p rfl (op_bin (qT rfl) (show ev _ _ = some (.int .i64 (.ofNat 1)) from rfl) (by first | exact bin_neq_f (by omega) | exact bin_neqI_f (by first | with_reducible assumption | omega)) ?_)
            refine pM rfl rfl ?_
            refine RP.p rfl (OpP.on' rfl rfl rfl (op_move (qT rfl) ?_))
            refine RP.p rfl (OpP.on' rfl rfl rfl (op_nilCheck (qT rfl) ?_))
            refine RP.p rfl (OpP.on' rfl rfl rfl (op_fieldAddr (off := 0) (qT rfl) (by kernel_rfl) ?_))
            refine RP.p rfl (OpP.on' rfl rfl rfl (op_fieldAddr (off := 1) (qT rfl) (by kernel_rfl) ?_))
            refine RP.r rfl (OpR.on' rfl rfl rfl (op_load (qT rfl) (hC.load (by kernel_rfl) rfl) ?_))
            refine RP.p rfl (OpP.on' rfl rfl rfl (op_len_row (qT rfl) (hU.fr hw0 hF hbu) Tryz.underlying49 ?_))
            refine RP.p rfl (OpP.on' rfl rfl rfl (op_bin (qT rfl) (show ev _ _ = some (.int .i64 (.ofNat 0)) from rfl) (by first | exact bin_eql_f (by omega) | exact bin_eqlI_f (by first | with_reducible assumption | omega)) ?_))
            refine RP.p rfl (op_pick_f (qT rfl) (qT rfl) ?_)
            refine RP.nil ?_
            refine Gives.else_ (qT rfl) ?_
            refine Gives.skip ?_
            refine Gives.seq ?_
            refine Gives.seq ?_
            refine Gives.region [.p 0, .p 1, .p 2, .e 3 [], .p 4] (by kernel_rfl) ?_
            refine pM rfl rfl ?_
            refine pN rfl rfl ?_
            refine pF (off := 0) rfl rfl (by kernel_rfl) ?_
            refine RP.e rfl (op_calls (evs_cons (qT rfl) evs_nil) (by kernel_rfl) (waitF_spec hS (hU.fr hw0 hF hbu) hC h3) ?_)
            rintro v h' ⟨rfl, rfl⟩
            refine RP.p rfl (op_notF (qT rfl) ?_)
            refine RP.nil ?_
            refine Gives.then_ (qT rfl) ?_
            refine Gives.seq ?_
            refine Gives.seq ?_
            refine Gives.region [.p 0, .p 1, .p 2, .r 3, .p 4, .p 5, .p 6, .r 7, .p 8, .p 9, .p 10, .r 11, .p 12, .p 13] (by kernel_rfl) ?_
            refine pM rfl rfl ?_
            refine pN rfl rfl ?_
            refine pF (off := 12) rfl rfl (by kernel_rfl) ?_
            refine pL rfl rfl (hC.load (by kernel_rfl) rfl) ?_
            refine pM rfl rfl ?_
            refine pN rfl rfl ?_
            refine pF (off := 13) rfl rfl (by kernel_rfl) ?_
            refine pL rfl rfl (hC.load (by kernel_rfl) rfl) ?_
            refine pM rfl rfl ?_
            refine pN rfl rfl ?_
            refine pF (off := 8) rfl rfl (by kernel_rfl) ?_
            refine pL rfl rfl (hC.load (by kernel_rfl) rfl) ?_
            refine RP.p rfl (op_bin (qT rfl) (qT rfl) (by first | exact bin_add (by have e1 : topK .i64 = 9223372036854775808 := rfl; have e2 : topK .u32 = 4294967296 := rfl; have e3 : topK .u64 = 18446744073709551616 := rfl; have e4 : topK .u8 = 256 := rfl; have e5 : topK .u16 = 65536 := rfl; omega) | exact bin_addI) ?_)
            refine RP.p rfl (op_bin (qT rfl) (qT rfl) (by first | exact bin_lss_f (by omega) | exact bin_lssI_f (by first | with_reducible assumption | omega)) ?_)
            refine RP.nil ?_
            refine Gives.else_ (qT rfl) ?_
            refine Gives.skip ?_
            refine Gives.seq ?_
            refine Gives.seq ?_
            refine Gives.region [.p 0, .p 1, .p 2, .r 3, .p 4, .p 5, .p 6, .r 7, .p 8] (by kernel_rfl) ?_
            refine pM rfl rfl ?_
            refine pN rfl rfl ?_
            refine pF (off := 14) rfl rfl (by kernel_rfl) ?_
            refine pL rfl rfl (hC.load (by kernel_rfl) rfl) ?_
            refine pM rfl rfl ?_
            refine pN rfl rfl ?_
            refine pF (off := 9) rfl rfl (by kernel_rfl) ?_
            refine pL rfl rfl (hC.load (by kernel_rfl) rfl) ?_
            refine RP.p rfl (op_bin (qT rfl) (qT rfl) (by first | exact bin_eql_f (by omega) | exact bin_eqlI_f (by first | with_reducible assumption | omega)) ?_)
            refine RP.nil ?_
            refine Gives.else_ (qT rfl) ?_
            refine Gives.skip ?_
            refine Gives.seq ?_
            refine Gives.region [.p 0, .p 1, .p 2, .r 3, .p 4, .p 5, .p 6, .e 7 []] (by kernel_rfl) ?_
            refine pM rfl rfl ?_
            refine pN rfl rfl ?_
            refine pF (off := 14) rfl rfl (by kernel_rfl) ?_
            refine pL rfl rfl (hC.load (by kernel_rfl) rfl) ?_
            refine RP.p rfl (op_bin (qT rfl) (show ev _ _ = some (.int .i64 (.ofNat 1)) from rfl) (by first | exact bin_add (by have e1 : topK .i64 = 9223372036854775808 := rfl; have e2 : topK .u32 = 4294967296 := rfl; have e3 : topK .u64 = 18446744073709551616 := rfl; have e4 : topK .u8 = 256 := rfl; have e5 : topK .u16 = 65536 := rfl; omega) | exact bin_addI) ?_)
            refine pN rfl rfl ?_
            refine pF (off := 14) rfl rfl (by kernel_rfl) ?_
            refine RP.e rfl (op_storeC (qT rfl) (qT rfl) hw hC (by kernel_rfl) (by first | rfl | assumption) (Nat.le_of_ble_eq_true rfl) (fun h1 hC1 hF1 hn => ?_))
            replace hB4 := hB4.fr hw hF1 (fun e => n_bf_b4.symm e)
            replace hC := hC1
            replace hF := hF.then hF1 (by intro c hc; first | exact .inl hc | exact .inl (.inl hc) | exact .inl (.inr hc) | exact hc.elim | (subst hc; right; omega))
            replace hw := hF1.wf
            clear hF1 hn hC1
            refine RP.nil ?_
            refine Gives.region [.p 0, .p 1, .p 2, .e 3 []] (by kernel_rfl) ?_
            refine pM rfl rfl ?_
            refine pN rfl rfl ?_
            refine pF (off := 0) rfl rfl (by kernel_rfl) ?_
            refine RP.e rfl (op_calls (evs_cons (qT rfl) evs_nil) (by kernel_rfl) (repeat_spec hS hw hC) ?_)
            rintro v h2 ⟨rfl, hC1, hF1⟩
            replace hB4 := hB4.fr hw hF1 (fun e => n_bf_b4.symm e)
            replace hF := hF.then hF1 (by intro c hc; first | exact .inl hc | exact .inl (.inl hc) | exact .inl (.inr hc) | exact hc.elim | (subst hc; right; omega))
            replace hw := hF1.wf
            replace hC := hC1
            refine RP.nil ?_
            refine Gives.seq ?_
            refine Gives.region [.p 0, .p 1, .p 2, .e 3 [], .p 4, .p 5, .p 6, .p 7, .p 8] (by kernel_rfl) ?_
            refine pM rfl rfl ?_
            refine pN rfl rfl ?_
            refine pF (off := 0) rfl rfl (by kernel_rfl) ?_
            refine RP.e rfl (op_calls (evs_cons (qT rfl) evs_nil) (by kernel_rfl) (take44_spec hS hw (hU.fr hw0 hF hbu) hC hfm hg (hI.frC hw0 hF hnb) hl1 hl2 (by omega)) ?_)
            rintro v h3 ⟨⟨v', rfl, hDD⟩, hC1, hF1⟩
            have hDb_bf : ∀ b, blkOf v' b → ¬ b = bf := fun b hb e => by { have := (hDD.2 b hb).1; have := hC.lt hw; omega }
            have hDb_b4 : ∀ b, blkOf v' b → ¬ b = b4 := fun b hb e => by { have := (hDD.2 b hb).1; have := hB4.lt hw; omega }
            replace hDD : Dt _ h0.next v' _ := ⟨hDD.1, fun b hb => ⟨Nat.le_trans hF.next (hDD.2 b hb).1, (hDD.2 b hb).2⟩⟩
            replace hB4 := hB4.fr hw hF1 (fun e => n_bf_b4.symm e)
            replace hF := hF.then hF1 (by intro c hc; first | exact .inl hc | exact .inl (.inl hc) | exact .inl (.inr hc) | exact hc.elim | (subst hc; right; omega))
            replace hw := hF1.wf
            replace hC := hC1
            refine pM rfl rfl ?_
            refine RP.p rfl (op_extract (qT rfl) rfl ?_)
            refine RP.p rfl (op_extract (qT rfl) rfl ?_)
            refine pA rfl rfl ?_
            refine pA rfl rfl ?_
            refine RP.nil ?_
            refine Gives.seq ?_
            refine Gives.region [.p 0, .p 1, .p 2, .p 3, .r 4, .p 5, .p 6, .e 7 []] (by kernel_rfl) ?_
            refine pM rfl rfl ?_
            refine pM rfl rfl ?_
            refine pN rfl rfl ?_
            refine pF (off := 12) rfl rfl (by kernel_rfl) ?_
            refine pL rfl rfl (hC.load (by kernel_rfl) rfl) ?_
            refine pN rfl rfl ?_
            refine pF (off := 13) rfl rfl (by kernel_rfl) ?_
            refine RP.e rfl (op_storeC (qT rfl) (qT rfl) hw hC (by kernel_rfl) (by first | rfl | assumption) (Nat.le_of_ble_eq_true rfl) (fun h4 hC1 hF1 hn => ?_))
            replace hDD := hDD.fr hw hF1 hDb_bf
            replace hB4 := hB4.fr hw hF1 (fun e => n_bf_b4.symm e)
            replace hC := hC1
            replace hF := hF.then hF1 (by intro c hc; first | exact .inl hc | exact .inl (.inl hc) | exact .inl (.inr hc) | exact hc.elim | (subst hc; right; omega))
            replace hw := hF1.wf
            clear hF1 hn hC1
            refine RP.nil ?_
            refine Gives.seq ?_
            refine Gives.region [.p 0, .p 1, .p 2, .r 3, .p 4, .p 5, .p 6, .r 7, .p 8, .p 9, .p 10, .e 11 [], .p 12] (by kernel_rfl) ?_
            refine pM rfl rfl ?_
            refine pN rfl rfl ?_
            refine pF (off := 6) rfl rfl (by kernel_rfl) ?_
            refine pL rfl rfl (hC.load (by kernel_rfl) rfl) ?_
            refine pM rfl rfl ?_
            refine pN rfl rfl ?_
            refine pF (off := 7) rfl rfl (by kernel_rfl) ?_
            refine pL rfl rfl (hC.load (by kernel_rfl) rfl) ?_
            refine pM rfl rfl ?_
            refine pM rfl rfl ?_
            have hone : (frameL cr ch ((a + 0) % 256) v').all AV.one = true := by { obtain ⟨_, _, _, _, e⟩ := hDD.1.slice hl1; rw [e]; rfl }
            have hvs := hDD.1.slice hl1
            refine RP.p rfl (op_build (z := .agg [.bool false, .bool false, nI 0, nI 0, nI 0, .snil]) (cs := frameL cr ch ((a + 0) % 256) v') (by kernel_rfl) Tryz.underlying56 (evParts_cons (qT rfl) (evParts_cons (qT rfl) (evParts_cons (qT rfl) (evParts_cons (qT rfl) evParts_nil)))) (by obtain ⟨_, _, _, _, e⟩ := hvs; rw [e]; kernel_rfl) (by kernel_rfl) ?_)
            refine RP.e rfl (op_storeW (m := 6) (qT rfl) (qT rfl) hw hB4 (by kernel_rfl) rfl rfl (by first | rfl | assumption) (fun h5 hC1 hF1 hn => ?_))
            replace hDD := hDD.fr hw hF1 hDb_b4
            replace hC := hC.fr hw hF1 (fun e => n_bf_b4 e)
            replace hB4 := hC1
            replace hF := hF.then hF1 (by intro c hc; first | exact .inl hc | exact .inl (.inl hc) | exact .inl (.inr hc) | exact hc.elim | (subst hc; right; omega))
            replace hw := hF1.wf
            clear hF1 hn hC1
            refine RP.p rfl (op_assign rfl ?_)
            refine RP.nil ?_
            exact Gives.ret0 (RS.cell2 rfl (hB4.loadG (m := 6) (by kernel_rfl) (by kernel_rfl) rfl (Nat.le_of_ble_eq_true rfl)) rfl (⟨hF, .inr ⟨0, v', .inr rfl, by omega, hfm, rfl, hDD, _, _, _, _, _, _, hC⟩⟩))
  ·
    refine Gives.seq ?_
    refine Gives.seq ?_
    refine Gives.region [.p 0, .p 1, .p 2, .r 3, .p 4, .p 5, .p 6, .p 7, .p 8, .p 9, .r 10, .p 11, .p 12, .p 13] (by kernel_rfl) ?_
    refine pM rfl rfl ?_
    refine pN rfl rfl ?_
    refine pF (off := 10) rfl rfl (by kernel_rfl) ?_
    refine pL rfl rfl (hC.load (by kernel_rfl) rfl) ?_
    refine RP.p rfl (op_bin (qT rfl) (show ev _ _ = some (.int .i64 (.ofNat 1)) from rfl) (by first | exact bin_neq_t (by omega) | exact bin_neqI_t (by first | with_reducible assumption | omega)) ?_)
    refine pM rfl rfl ?_
    refine RP.p rfl (OpP.offT rfl rfl rfl ?_)
    refine RP.p rfl (OpP.offT rfl rfl rfl ?_)
    refine RP.p rfl (OpP.offT rfl rfl rfl ?_)
    refine RP.p rfl (OpP.offT rfl rfl rfl ?_)
    refine RP.r rfl (OpR.offT rfl rfl rfl ?_)
    refine RP.p rfl (OpP.offT rfl rfl rfl ?_)
    refine RP.p rfl (OpP.offT rfl rfl rfl ?_)
    refine RP.p rfl (op_pick_t (qT rfl) rfl ?_)
    refine RP.nil ?_
    refine Gives.then_ (qT rfl) ?_
    refine Gives.seq ?_
    refine Gives.region [.p 0, .e 1 [], .p 2] (by kernel_rfl) ?_
    refine RP.p rfl (op_build (z := .agg [.bool false, .bool false, .int .i64 (.ofNat 0), .int .i64 (.ofNat 0), .int .i64 (.ofNat 0), .snil]) (cs := [.bool false, .bool false, .int .i64 (.ofNat 0), .int .i64 (.ofNat 0), .int .i64 (.ofNat 0), .snil]) (by kernel_rfl) Tryz.underlying56 evParts_nil (by kernel_rfl) (by kernel_rfl) ?_)
    refine RP.e rfl (op_storeW (m := 6) (qT rfl) (qT rfl) hw hB4 (by kernel_rfl) rfl rfl (by first | rfl | assumption) (fun h1 hC1 hF1 hn => ?_))
    replace hC := hC.fr hw hF1 (fun e => n_bf_b4 e)
    replace hB4 := hC1
    replace hF := hF.then hF1 (by intro c hc; first | exact .inl hc | exact .inl (.inl hc) | exact .inl (.inr hc) | exact hc.elim | (subst hc; right; omega))
    replace hw := hF1.wf
    clear hF1 hn hC1
    refine RP.p rfl (op_assign rfl ?_)
    refine RP.nil ?_
    exact Gives.ret0 (RS.cell2 rfl (hB4.loadG (m := 6) (by kernel_rfl) (by kernel_rfl) rfl (Nat.le_of_ble_eq_true rfl)) rfl (⟨hF, .inl ⟨rfl, _, _, _, _, _, _, hC⟩⟩))
end Go.Abs
