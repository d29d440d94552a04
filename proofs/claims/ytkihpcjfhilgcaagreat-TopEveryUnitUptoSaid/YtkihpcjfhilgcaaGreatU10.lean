/- What one move does to a channel: a frame arrives. No condition. -/
import Derived.Test.YtkihpcjfhilgcaaGreatU09
namespace Go.Abs
open Go.Proofs
variable {X : Ext0} {S : Sums} {L : Nat} {h0 h : H} {F : Fm} {Bk : Ex → Fm → H → Prop}
variable {bf bg size wi cr ch bl ol N cl i : Nat} {exl : Bool} {kd wt : Nat → Int} {fu : Nat → Bool} {dv : Nat → AV} {dl : Nat → List Nat}
theorem kind2_end {F' : Fm} {h1 : H} {col : Nat → Nat} {u sv up dn up' : AV} {us ss pf qf : List AV} {a fl fr n n' x now : Nat} {C : List (List Nat)} {ps qs : List Nat} {lv : AV}
    (hSt : UnSt h0 h col bf bg size wi cr ch u sv up dn us ss pf qf a fl fr n C (x :: ps) qs) (hnow : now ≤ 1099511627776) (hC : C.length ≤ i) (hP : (x :: ps).length ≤ i) (hQ : qs.length ≤ i)
    (hF1 : Fr (fun c => c = bg) h h1) (hR' : RowK h1 6 up' (ps.length + 1 - 1) (pf.drop (1 * 6))) (hsub : ∀ b, blkOf up' b → blkOf up b)
    (hg : ∃ lo wa re, Cells h1 bg (FarmL cr wi ch (n' % 256) lo wa re 0)) (hI : UInv C.length size a fl fr n' ps qs)
    (e1 : F'.at 1 = some lv) (e5 : F'.at 5 = some (.ptr bf 0)) (e6 : F'.at 6 = some (.ptr bg 0)) (e12 : F'.at 12 = some (nI i)) (e7 : F'.at 7 = some sv) (e8 : F'.at 8 = some up') (e9 : F'.at 9 = some dn) (e10 : F'.at 10 = some (nI n')) (e11 : F'.at 11 = some (nI now)) :
    LoopSt h0 bf bg size wi cr ch lv i (i + 1) F' h1 := by
  have hw := hSt.w
  have hbg := hSt.qg_.2.2
  have hB : ∀ b, (b = bg) → b < h.next → col b = 2 := fun b hb _ => by { rw [hb]; exact hSt.qg_.2.1 }
  rw [Nat.add_sub_cancel] at hR'
  exact ⟨e1, e5, e6, e12, colN h col (fun _ => 0), u, sv, up', dn, us, ss, _, qf, a, fl, fr, n', C, ps, qs, now, e7, e8, e9, e10, e11, hnow, ⟨hF1.wf, hSt.f1 hF1 (ne_of_eq hB (by decide)), hSt.o1, hSt.qf_.step hw hF1 (ne_of_eq hB (by decide)) colN_old, ⟨hg, (colN_old bg hbg).trans hSt.qg_.2.1, Nat.lt_of_lt_of_le hbg hF1.next⟩,
    hSt.pu.step hw hF1 (ne_of_eq hB (by decide)) colN_old, hSt.pud.step hw hF1 (ne_of_eq hB (by decide)) colN_old, hSt.rs.step hw hF1 (ne_of_eq hB (by decide)) colN_old, hSt.rsd.step hw hF1 (ne_of_eq hB (by decide)) colN_old,
    ⟨hR', fun b hb => by rw [colN_old b (hSt.pp.1.lt hw b (hsub b hb))]; exact hSt.pp.2 b (hsub b hb)⟩, (hSt.ppd.step hw hF1 (ne_of_eq hB (by decide)) colN_old).tail, hSt.pq.step hw hF1 (ne_of_eq hB (by decide)) colN_old, hSt.pqd, hI⟩, by omega, by simp at hP; omega, by omega⟩
theorem kind2 {d : Nat} (hS : SOk S) (hi : i < N) (hcl : N ≤ cl) (hN : N ≤ 1048576) (hw0 : WF h0) (hM : Mvs h0 bl ol N kd wt fu dv dl) (hwi : 1 ≤ wi) (hwi2 : wi ≤ 127) (hcr : cr ≤ 1023) (hch : ch ≤ 7) (hk0 : ¬ kd i = Int.ofNat 0) (hk1 : ¬ kd i = Int.ofNat 1) (hk2 : kd i = Int.ofNat 2)
    (hL : LoopSt h0 bf bg size wi cr ch (.slice bl ol N cl 4 exl) i i F h) (f70 : F.at 70 = some (zI (kd i))) :
    Gives Tryz.prog X (callA Tryz.prog X S L (d + 5)) L (Nat.max 2 Tryz.f4.ntmps) swC F h (LoopSt h0 bf bg size wi cr ch (.slice bl ol N cl 4 exl) i (i + 1)) Bk := by
  obtain ⟨f1, f5, f6, f12, col, u, sv, up, dn, us, ss, pf, qf, a, fl, fr, n, C, ps, qs, now, f7, f8, f9, f10, f11, hnow, hSt, hC, hP, hQ⟩ := hL
  cases ps with
  | nil =>
    have hR : RowK h 6 up 0 pf := hSt.pp.1
    refine Gives.block ?_
    refine Gives.seq ?_
    refine Gives.region [.p 0, .p 1] (by kernel_rfl) ?_
    refine RP.p rfl (op_bin (qT f70) (show ev _ _ = some (.int .i64 (.ofNat 0)) from rfl) (by first | exact bin_eql_f (by omega) | exact bin_eqlI_f (by first | with_reducible assumption | omega)) ?_)
    refine pA rfl qS ?_
    refine RP.nil ?_
    refine Gives.else_ (qT qS) ?_
    refine Gives.seq ?_
    refine Gives.region [.p 0, .p 1] (by kernel_rfl) ?_
    refine RP.p rfl (op_bin (qT (qN rfl (qN rfl f70))) (show ev _ _ = some (.int .i64 (.ofNat 1)) from rfl) (by first | exact bin_eql_f (by omega) | exact bin_eqlI_f (by first | with_reducible assumption | omega)) ?_)
    refine pA rfl qS ?_
    refine RP.nil ?_
    refine Gives.else_ (qT qS) ?_
    refine Gives.seq ?_
    refine Gives.region [.p 0, .p 1] (by kernel_rfl) ?_
    refine RP.p rfl (op_bin (qT (qN rfl (qN rfl (qN rfl (qN rfl f70))))) (show ev _ _ = some (.int .i64 (.ofNat 2)) from rfl) (by first | exact bin_eql_t (by omega) | exact bin_eqlI_t (by first | with_reducible assumption | omega)) ?_)
    refine pA rfl qS ?_
    refine RP.nil ?_
    refine Gives.then_ (qT qS) ?_
    refine Gives.seq ?_
    refine Gives.region [.p 0, .p 1, .p 2] (by kernel_rfl) ?_
    refine pM rfl (qN rfl (qN rfl (qN rfl (qN rfl (qN rfl (qN rfl f8)))))) ?_
    refine RP.p rfl (op_len_row (qT qS) hR Tryz.underlying50 ?_)
    refine RP.p rfl (op_bin (qT qS) (show ev _ _ = some (.int .i64 (.ofNat 0)) from rfl) (by first | exact bin_gtr_f (by omega) | exact bin_gtrI_f (by first | with_reducible assumption | omega)) ?_)
    refine RP.nil ?_
    refine Gives.else_ (qT qS) ?_
    refine Gives.skip ?_
    exact ⟨(by repeat (first | with_reducible (first | exact qS | assumption) | refine qN rfl ?_ | exact qO rfl)), (by repeat (first | with_reducible (first | exact qS | assumption) | refine qN rfl ?_ | exact qO rfl)), (by repeat (first | with_reducible (first | exact qS | assumption) | refine qN rfl ?_ | exact qO rfl)), (by repeat (first | with_reducible (first | exact qS | assumption) | refine qN rfl ?_ | exact qO rfl)), col, u, sv, up, dn, us, ss, pf, qf, a, fl, fr, n, C, [], qs, now, (by repeat (first | with_reducible (first | exact qS | assumption) | refine qN rfl ?_ | exact qO rfl)), (by repeat (first | with_reducible (first | exact qS | assumption) | refine qN rfl ?_ | exact qO rfl)), (by repeat (first | with_reducible (first | exact qS | assumption) | refine qN rfl ?_ | exact qO rfl)), (by repeat (first | with_reducible (first | exact qS | assumption) | refine qN rfl ?_ | exact qO rfl)), (by repeat (first | with_reducible (first | exact qS | assumption) | refine qN rfl ?_ | exact qO rfl)), hnow, hSt, by omega, by simp, by omega⟩
  | cons x ps =>
    have hR : RowK h 6 up (ps.length + 1) pf := hSt.pp.1
    have hw := hSt.w
    have hFu := (hM.fr hw0 hSt.f0).f i hi
    obtain ⟨dx, hx, hdx⟩ := hSt.ppd 0 x rfl
    obtain ⟨⟨lo, wa, re, hG⟩, hgc, hgl⟩ := hSt.qg_
    have hnb : ∀ b, blkOf dx b → ¬ b = bg := fun b hb e => by { have h3 := hdx.2.2 b hb; rw [e, hgc] at h3; cases h3 }
    have hpb : ∀ b, blkOf up b → ¬ b = bg := fun b hb e => by { have h3 := hSt.pp.2 b hb; rw [e, hgc] at h3; cases h3 }
    have hsb : ∀ b, blkOf sv b → ¬ b = bg := fun b hb e => by { have h3 := hSt.rs.2 b hb; rw [e, hgc] at h3; cases h3 }
    obtain ⟨hxl, hxn⟩ := hSt.inv.head
    have hinv := hSt.inv
    by_cases hdl : lo = false ∧ x % 256 = n % 256 ∧ (!fu i) = true
    · obtain rfl := hxn hdl.2.1
      obtain ⟨sd, hsd, hsdv⟩ := hSt.rsd x (by omega)
      rw [Nat.zero_add] at hsdv
      refine Gives.block ?_
      refine Gives.seq ?_
      refine Gives.region [.p 0, .p 1] (by kernel_rfl) ?_
      refine RP.p rfl (op_bin (qT f70) (show ev _ _ = some (.int .i64 (.ofNat 0)) from rfl) (by first | exact bin_eql_f (by omega) | exact bin_eqlI_f (by first | with_reducible assumption | omega)) ?_)
      refine pA rfl qS ?_
      refine RP.nil ?_
      refine Gives.else_ (qT qS) ?_
      refine Gives.seq ?_
      refine Gives.region [.p 0, .p 1] (by kernel_rfl) ?_
      refine RP.p rfl (op_bin (qT (qN rfl (qN rfl f70))) (show ev _ _ = some (.int .i64 (.ofNat 1)) from rfl) (by first | exact bin_eql_f (by omega) | exact bin_eqlI_f (by first | with_reducible assumption | omega)) ?_)
      refine pA rfl qS ?_
      refine RP.nil ?_
      refine Gives.else_ (qT qS) ?_
      refine Gives.seq ?_
      refine Gives.region [.p 0, .p 1] (by kernel_rfl) ?_
      refine RP.p rfl (op_bin (qT (qN rfl (qN rfl (qN rfl (qN rfl f70))))) (show ev _ _ = some (.int .i64 (.ofNat 2)) from rfl) (by first | exact bin_eql_t (by omega) | exact bin_eqlI_t (by first | with_reducible assumption | omega)) ?_)
      refine pA rfl qS ?_
      refine RP.nil ?_
      refine Gives.then_ (qT qS) ?_
      refine Gives.seq ?_
      refine Gives.region [.p 0, .p 1, .p 2] (by kernel_rfl) ?_
      refine pM rfl (qN rfl (qN rfl (qN rfl (qN rfl (qN rfl (qN rfl f8)))))) ?_
      refine RP.p rfl (op_len_row (qT qS) hR Tryz.underlying50 ?_)
      refine RP.p rfl (op_bin (qT qS) (show ev _ _ = some (.int .i64 (.ofNat 0)) from rfl) (by first | exact bin_gtr_t (by omega) | exact bin_gtrI_t (by first | with_reducible assumption | omega)) ?_)
      refine RP.nil ?_
      refine Gives.then_ (qT qS) ?_
      refine Gives.seq ?_
      refine Gives.region [.p 0, .p 1, .p 2, .r 3, .p 4, .p 5, .p 6, .p 7, .r 8, .p 9, .e 10 [], .p 11, .p 12, .p 13, .p 14, .p 15] (by kernel_rfl) ?_
      refine pM rfl (qN rfl (qN rfl (qN rfl (qN rfl (qN rfl (qN rfl (qN rfl (qN rfl (qN rfl f6))))))))) ?_
      refine pM rfl (by repeat (first | with_reducible (first | exact qS | assumption) | refine qN rfl ?_ | exact qO rfl)) ?_
      refine RP.p rfl (op_index_row (j := 0) (qT (by repeat (first | with_reducible (first | exact qS | assumption) | refine qN rfl ?_ | exact qO rfl))) hR (show ev _ _ = some (.int .i64 (.ofNat 0)) from rfl) Tryz.underlying50 (by kernel_rfl) (by omega) (fun bI oI _ hld => ?_))
      refine pL rfl (by repeat (first | with_reducible (first | exact qS | assumption) | refine qN rfl ?_ | exact qO rfl)) (hld (frameL cr ch (x % 256) dx) 56 (by kernel_rfl) (by kernel_rfl) hx) ?_
      refine pM rfl (by repeat (first | with_reducible (first | exact qS | assumption) | refine qN rfl ?_ | exact qO rfl)) ?_
      refine pM rfl (by repeat (first | with_reducible (first | exact qS | assumption) | refine qN rfl ?_ | exact qO rfl)) ?_
      refine RP.p rfl (op_indexAddr (qT (by repeat (first | with_reducible (first | exact qS | assumption) | refine qN rfl ?_ | exact qO rfl))) (qT (by repeat (first | with_reducible (first | exact qS | assumption) | refine qN rfl ?_ | exact qO rfl))) Tryz.underlying44 (by kernel_rfl) hi hcl ?_)
      refine pF (off := 2) rfl qS (by kernel_rfl) ?_
      refine RP.r rfl (op_load (qT (by repeat (first | with_reducible (first | exact qS | assumption) | refine qN rfl ?_ | exact qO rfl))) hFu ?_)
      refine RP.p rfl (op_not (qT qS) ?_)
      refine RP.e rfl (op_calls (evs_cons (qT (qN rfl (qN rfl (qN rfl (qN rfl (qN rfl (qN rfl (qN rfl (qN rfl (qN rfl qS)))))))))) (evs_cons (qT (qN rfl (qN rfl (qN rfl (qN rfl (qN rfl (qN rfl qS))))))) (evs_cons (qT qS) evs_nil))) (by kernel_rfl) (take_spec hS hw (!fu i) hG hwi hwi2 (Nat.mod_lt _ (by decide)) (Nat.mod_lt _ (by decide)) hdx.1 hnb hcr hch hdx.2.1.1 hdx.2.1.2) ?_)
      rintro v h1 ⟨hF1, _, hq⟩
      obtain ⟨⟨tv, rfl, htv⟩, lo1, wa1, re1, hG1⟩ := hq hdl
      have hR1 := hR.fr hw hF1 hpb
      have hS1 := hSt.rs.1.fr hw hF1 hsb
      have hsi : Img h1 sd (at_ C x) := hsdv.1.frC hw hF1 (fun b hb e => by { have h3 := hsdv.2.2 b hb; rw [e, hgc] at h3; cases h3 })
      refine pM rfl qS ?_
      refine RP.p rfl (op_extract (qT qS) rfl ?_)
      refine RP.p rfl (op_extract (qT (qN rfl qS)) rfl ?_)
      refine pA rfl (qN rfl qS) ?_
      refine pA rfl (qN rfl qS) ?_
      refine RP.nil ?_
      refine Gives.seq ?_
      refine Gives.region [.p 0, .p 1, .p 2] (by kernel_rfl) ?_
      refine pM rfl (by repeat (first | with_reducible (first | exact qS | assumption) | refine qN rfl ?_ | exact qO rfl)) ?_
      refine RP.p rfl (op_slice_row (j := 1) (qT (by repeat (first | with_reducible (first | exact qS | assumption) | refine qN rfl ?_ | exact qO rfl))) hR1 rfl Tryz.underlying50 (by kernel_rfl) (by omega) (fun up' hR' hsub hone => ?_))
      refine pA rfl qS ?_
      refine RP.nil ?_
      refine Gives.seq ?_
      refine Gives.region [.p 0, .p 1] (by kernel_rfl) ?_
      refine pM rfl (qN rfl (qN rfl (qN rfl qS))) ?_
      refine RP.p rfl (op_bin (qT qS) (show ev _ _ = some (.int .i64 (.ofNat 1)) from rfl) (by first | exact bin_eql_t (by omega) | exact bin_eqlI_t (by first | with_reducible assumption | omega)) ?_)
      refine RP.nil ?_
      refine Gives.then_ (qT qS) ?_
      refine Gives.seq ?_
      refine Gives.seq ?_
      refine Gives.region [.p 0, .p 1, .p 2, .p 3, .p 4, .p 5, .r 6, .p 7, .p 8, .p 9, .r 10, .r 11, .p 12, .p 13] (by kernel_rfl) ?_
      refine pM rfl (by repeat (first | with_reducible (first | exact qS | assumption) | refine qN rfl ?_ | exact qO rfl)) ?_
      refine pM rfl (by repeat (first | with_reducible (first | exact qS | assumption) | refine qN rfl ?_ | exact qO rfl)) ?_
      refine RP.p rfl (op_len_row (qT qS) hS1 Tryz.underlying49 ?_)
      refine RP.p rfl (op_bin (qT (by repeat (first | with_reducible (first | exact qS | assumption) | refine qN rfl ?_ | exact qO rfl))) (qT (by repeat (first | with_reducible (first | exact qS | assumption) | refine qN rfl ?_ | exact qO rfl))) (bin_geq_f hxl) ?_)
      refine pM rfl qS ?_
      refine RP.p rfl (OpP.on' rfl rfl qS (op_move (qT (by repeat (first | with_reducible (first | exact qS | assumption) | refine qN rfl ?_ | exact qO rfl))) ?_))
      refine RP.r rfl (OpR.on' rfl rfl (by repeat (first | with_reducible (first | exact qS | assumption) | refine qN rfl ?_ | exact qO rfl)) (op_strU (qT (by repeat (first | with_reducible (first | exact qS | assumption) | refine qN rfl ?_ | exact qO rfl))) htv.1 Tryz.underlying26 Tryz.underlying9 Tryz.underlying5 (by kernel_rfl) ?_))
      refine RP.p rfl (OpP.on' rfl rfl (qN rfl (qN rfl qS)) (op_move (qT (by repeat (first | with_reducible (first | exact qS | assumption) | refine qN rfl ?_ | exact qO rfl))) ?_))
      refine RP.p rfl (OpP.on' rfl rfl (qN rfl (qN rfl (qN rfl qS))) (op_move (qT (by repeat (first | with_reducible (first | exact qS | assumption) | refine qN rfl ?_ | exact qO rfl))) ?_))
      refine RP.p rfl (OpP.on' rfl rfl (by repeat (first | with_reducible (first | exact qS | assumption) | refine qN rfl ?_ | exact qO rfl)) (op_index_row (j := x) (qT (by repeat (first | with_reducible (first | exact qS | assumption) | refine qN rfl ?_ | exact qO rfl))) hS1 (qT (by repeat (first | with_reducible (first | exact qS | assumption) | refine qN rfl ?_ | exact qO rfl))) Tryz.underlying49 (by kernel_rfl) hxl (fun bJ oJ hlj _ => ?_)))
      refine RP.r rfl (OpR.on' rfl rfl (by repeat (first | with_reducible (first | exact qS | assumption) | refine qN rfl ?_ | exact qO rfl)) (op_load (qT (by repeat (first | with_reducible (first | exact qS | assumption) | refine qN rfl ?_ | exact qO rfl))) (show loadA _ _ 26 bJ oJ = some sd from hlj 0 sd (by decide) (by rw [Nat.mul_one, Nat.add_zero]; exact hsd) 26 (by kernel_rfl)) ?_))
      refine RP.r rfl (OpR.on' rfl rfl (by repeat (first | with_reducible (first | exact qS | assumption) | refine qN rfl ?_ | exact qO rfl)) (op_strU (qT (by repeat (first | with_reducible (first | exact qS | assumption) | refine qN rfl ?_ | exact qO rfl))) hsi Tryz.underlying26 Tryz.underlying9 Tryz.underlying5 (by kernel_rfl) ?_))
      refine RP.p rfl (OpP.on' rfl rfl (by repeat (first | with_reducible (first | exact qS | assumption) | refine qN rfl ?_ | exact qO rfl)) (op_bin (qT (by repeat (first | with_reducible (first | exact qS | assumption) | refine qN rfl ?_ | exact qO rfl))) (qT (by repeat (first | with_reducible (first | exact qS | assumption) | refine qN rfl ?_ | exact qO rfl))) bin_neq_strU ?_))
      refine RP.p rfl (op_pick_f (qT (qN rfl (qN rfl (qN rfl (qN rfl (qN rfl (qN rfl (qN rfl (qN rfl qS))))))))) (qT qS) ?_)
      refine RP.nil ?_
      refine Gives.else_ (qT qS) ?_
      refine Gives.skip ?_
      refine Gives.region [.p 0, .p 1, .p 2] (by kernel_rfl) ?_
      refine pM rfl (by repeat (first | with_reducible (first | exact qS | assumption) | refine qN rfl ?_ | exact qO rfl)) ?_
      refine RP.p rfl (op_bin (qT qS) (show ev _ _ = some (.int .i64 (.ofNat 1)) from rfl) (by first | exact bin_add (by have e1 : topK .i64 = 9223372036854775808 := rfl; have e2 : topK .u32 = 4294967296 := rfl; have e3 : topK .u64 = 18446744073709551616 := rfl; have e4 : topK .u8 = 256 := rfl; have e5 : topK .u16 = 65536 := rfl; omega) | exact bin_addI) ?_)
      refine pA rfl qS ?_
      refine RP.nil ?_
      exact (kind2_end (n' := x + 1) hSt hnow hC hP hQ hF1 hR' hsub ⟨lo1, wa1, re1, by rw [show (x + 1) % 256 = (x % 256 + 1) % 256 by omega]; exact hG1⟩ hinv.got (by repeat (first | with_reducible (first | exact qS | assumption) | refine qN rfl ?_ | exact qO rfl)) (by repeat (first | with_reducible (first | exact qS | assumption) | refine qN rfl ?_ | exact qO rfl)) (by repeat (first | with_reducible (first | exact qS | assumption) | refine qN rfl ?_ | exact qO rfl)) (by repeat (first | with_reducible (first | exact qS | assumption) | refine qN rfl ?_ | exact qO rfl)) (by repeat (first | with_reducible (first | exact qS | assumption) | refine qN rfl ?_ | exact qO rfl)) (by repeat (first | with_reducible (first | exact qS | assumption) | refine qN rfl ?_ | exact qO rfl)) (by repeat (first | with_reducible (first | exact qS | assumption) | refine qN rfl ?_ | exact qO rfl)) (by repeat (first | with_reducible (first | exact qS | assumption) | refine qN rfl ?_ | exact qO rfl)) (by repeat (first | with_reducible (first | exact qS | assumption) | refine qN rfl ?_ | exact qO rfl)))
    ·
      refine Gives.block ?_
      refine Gives.seq ?_
      refine Gives.region [.p 0, .p 1] (by kernel_rfl) ?_
      refine RP.p rfl (op_bin (qT f70) (show ev _ _ = some (.int .i64 (.ofNat 0)) from rfl) (by first | exact bin_eql_f (by omega) | exact bin_eqlI_f (by first | with_reducible assumption | omega)) ?_)
      refine pA rfl qS ?_
      refine RP.nil ?_
      refine Gives.else_ (qT qS) ?_
      refine Gives.seq ?_
      refine Gives.region [.p 0, .p 1] (by kernel_rfl) ?_
      refine RP.p rfl (op_bin (qT (qN rfl (qN rfl f70))) (show ev _ _ = some (.int .i64 (.ofNat 1)) from rfl) (by first | exact bin_eql_f (by omega) | exact bin_eqlI_f (by first | with_reducible assumption | omega)) ?_)
      refine pA rfl qS ?_
      refine RP.nil ?_
      refine Gives.else_ (qT qS) ?_
      refine Gives.seq ?_
      refine Gives.region [.p 0, .p 1] (by kernel_rfl) ?_
      refine RP.p rfl (op_bin (qT (qN rfl (qN rfl (qN rfl (qN rfl f70))))) (show ev _ _ = some (.int .i64 (.ofNat 2)) from rfl) (by first | exact bin_eql_t (by omega) | exact bin_eqlI_t (by first | with_reducible assumption | omega)) ?_)
      refine pA rfl qS ?_
      refine RP.nil ?_
      refine Gives.then_ (qT qS) ?_
      refine Gives.seq ?_
      refine Gives.region [.p 0, .p 1, .p 2] (by kernel_rfl) ?_
      refine pM rfl (qN rfl (qN rfl (qN rfl (qN rfl (qN rfl (qN rfl f8)))))) ?_
      refine RP.p rfl (op_len_row (qT qS) hR Tryz.underlying50 ?_)
      refine RP.p rfl (op_bin (qT qS) (show ev _ _ = some (.int .i64 (.ofNat 0)) from rfl) (by first | exact bin_gtr_t (by omega) | exact bin_gtrI_t (by first | with_reducible assumption | omega)) ?_)
      refine RP.nil ?_
      refine Gives.then_ (qT qS) ?_
      refine Gives.seq ?_
      refine Gives.region [.p 0, .p 1, .p 2, .r 3, .p 4, .p 5, .p 6, .p 7, .r 8, .p 9, .e 10 [], .p 11, .p 12, .p 13, .p 14, .p 15] (by kernel_rfl) ?_
      refine pM rfl (qN rfl (qN rfl (qN rfl (qN rfl (qN rfl (qN rfl (qN rfl (qN rfl (qN rfl f6))))))))) ?_
      refine pM rfl (by repeat (first | with_reducible (first | exact qS | assumption) | refine qN rfl ?_ | exact qO rfl)) ?_
      refine RP.p rfl (op_index_row (j := 0) (qT (by repeat (first | with_reducible (first | exact qS | assumption) | refine qN rfl ?_ | exact qO rfl))) hR (show ev _ _ = some (.int .i64 (.ofNat 0)) from rfl) Tryz.underlying50 (by kernel_rfl) (by omega) (fun bI oI _ hld => ?_))
      refine pL rfl (by repeat (first | with_reducible (first | exact qS | assumption) | refine qN rfl ?_ | exact qO rfl)) (hld (frameL cr ch (x % 256) dx) 56 (by kernel_rfl) (by kernel_rfl) hx) ?_
      refine pM rfl (by repeat (first | with_reducible (first | exact qS | assumption) | refine qN rfl ?_ | exact qO rfl)) ?_
      refine pM rfl (by repeat (first | with_reducible (first | exact qS | assumption) | refine qN rfl ?_ | exact qO rfl)) ?_
      refine RP.p rfl (op_indexAddr (qT (by repeat (first | with_reducible (first | exact qS | assumption) | refine qN rfl ?_ | exact qO rfl))) (qT (by repeat (first | with_reducible (first | exact qS | assumption) | refine qN rfl ?_ | exact qO rfl))) Tryz.underlying44 (by kernel_rfl) hi hcl ?_)
      refine pF (off := 2) rfl qS (by kernel_rfl) ?_
      refine RP.r rfl (op_load (qT (by repeat (first | with_reducible (first | exact qS | assumption) | refine qN rfl ?_ | exact qO rfl))) hFu ?_)
      refine RP.p rfl (op_not (qT qS) ?_)
      refine RP.e rfl (op_calls (evs_cons (qT (qN rfl (qN rfl (qN rfl (qN rfl (qN rfl (qN rfl (qN rfl (qN rfl (qN rfl qS)))))))))) (evs_cons (qT (qN rfl (qN rfl (qN rfl (qN rfl (qN rfl (qN rfl qS))))))) (evs_cons (qT qS) evs_nil))) (by kernel_rfl) (take_spec hS hw (!fu i) hG hwi hwi2 (Nat.mod_lt _ (by decide)) (Nat.mod_lt _ (by decide)) hdx.1 hnb hcr hch hdx.2.1.1 hdx.2.1.2) ?_)
      rintro v h1 ⟨hF1, hq, _⟩
      obtain ⟨⟨r, rfl, hr⟩, lo1, wa1, re1, hG1⟩ := hq hdl
      have hR1 := hR.fr hw hF1 hpb
      refine pM rfl qS ?_
      refine RP.p rfl (op_extract (qT qS) rfl ?_)
      refine RP.p rfl (op_extract (qT (qN rfl qS)) rfl ?_)
      refine pA rfl (qN rfl qS) ?_
      refine pA rfl (qN rfl qS) ?_
      refine RP.nil ?_
      refine Gives.seq ?_
      refine Gives.region [.p 0, .p 1, .p 2] (by kernel_rfl) ?_
      refine pM rfl (by repeat (first | with_reducible (first | exact qS | assumption) | refine qN rfl ?_ | exact qO rfl)) ?_
      refine RP.p rfl (op_slice_row (j := 1) (qT (by repeat (first | with_reducible (first | exact qS | assumption) | refine qN rfl ?_ | exact qO rfl))) hR1 rfl Tryz.underlying50 (by kernel_rfl) (by omega) (fun up' hR' hsub hone => ?_))
      refine pA rfl qS ?_
      refine RP.nil ?_
      refine Gives.seq ?_
      refine Gives.region [.p 0, .p 1] (by kernel_rfl) ?_
      refine pM rfl (qN rfl (qN rfl (qN rfl qS))) ?_
      refine RP.p rfl (op_bin (qT qS) (show ev _ _ = some (.int .i64 (.ofNat 1)) from rfl) (by first | exact bin_eql_f (by omega) | exact bin_eqlI_f (by first | with_reducible assumption | omega)) ?_)
      refine RP.nil ?_
      refine Gives.else_ (qT qS) ?_
      refine Gives.skip ?_
      exact (kind2_end (n' := n) hSt hnow hC hP hQ hF1 hR' hsub ⟨lo1, wa1, re1, hG1⟩ hinv.lost (by repeat (first | with_reducible (first | exact qS | assumption) | refine qN rfl ?_ | exact qO rfl)) (by repeat (first | with_reducible (first | exact qS | assumption) | refine qN rfl ?_ | exact qO rfl)) (by repeat (first | with_reducible (first | exact qS | assumption) | refine qN rfl ?_ | exact qO rfl)) (by repeat (first | with_reducible (first | exact qS | assumption) | refine qN rfl ?_ | exact qO rfl)) (by repeat (first | with_reducible (first | exact qS | assumption) | refine qN rfl ?_ | exact qO rfl)) (by repeat (first | with_reducible (first | exact qS | assumption) | refine qN rfl ?_ | exact qO rfl)) (by repeat (first | with_reducible (first | exact qS | assumption) | refine qN rfl ?_ | exact qO rfl)) (by repeat (first | with_reducible (first | exact qS | assumption) | refine qN rfl ?_ | exact qO rfl)) (by repeat (first | with_reducible (first | exact qS | assumption) | refine qN rfl ?_ | exact qO rfl)))
theorem kinds {d : Nat} (hS : SOk S) (hi : i < N) (hcl : N ≤ cl) (hN : N ≤ 1048576) (hw0 : WF h0) (hM : Mvs h0 bl ol N kd wt fu dv dl) (hwi : 1 ≤ wi) (hwi2 : wi ≤ 127) (hcr : cr ≤ 1023) (hch : ch ≤ 7)
    (hL : LoopSt h0 bf bg size wi cr ch (.slice bl ol N cl 4 exl) i i F h) (f70 : F.at 70 = some (zI (kd i))) :
    Gives Tryz.prog X (callA Tryz.prog X S L (d + 6)) L (Nat.max 2 Tryz.f4.ntmps) swC F h (LoopSt h0 bf bg size wi cr ch (.slice bl ol N cl 4 exl) i (i + 1)) Bk := by
  by_cases k0 : kd i = Int.ofNat 0
  · exact kind0 (d := d + 4) hS hi hcl hN hw0 hM k0 hL f70
  by_cases k1 : kd i = Int.ofNat 1
  · exact kind1 (d := d + 3) hS hi hN k0 k1 hL f70
  by_cases k2 : kd i = Int.ofNat 2
  · exact kind2 (d := d + 1) hS hi hcl hN hw0 hM hwi hwi2 hcr hch k0 k1 k2 hL f70
  by_cases k3 : kd i = Int.ofNat 3
  · exact kind3 hi k0 k1 k2 k3 hL f70
  by_cases k4 : kd i = Int.ofNat 4
  · exact kind4 (d := d + 4) hS hi hN hwi k0 k1 k2 k3 k4 hL f70
  by_cases k5 : kd i = Int.ofNat 5
  · exact kind5 (d := d + 2) hS hi hN hch k0 k1 k2 k3 k4 k5 hL f70
  by_cases k6 : kd i = Int.ofNat 6
  · exact kind6 hi k0 k1 k2 k3 k4 k5 k6 hL f70
  · exact kind7 hi hcl hw0 hM k0 k1 k2 k3 k4 k5 k6 hL f70
end Go.Abs
