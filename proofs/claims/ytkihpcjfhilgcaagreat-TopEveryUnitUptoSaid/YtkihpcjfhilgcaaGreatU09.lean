/- What one move does to a channel: a report is heard, data are sent. No condition. -/
import Derived.Test.YtkihpcjfhilgcaaGreatU08
namespace Go.Abs
open Go.Proofs
variable {X : Ext0} {S : Sums} {L : Nat} {h0 h : H} {F : Fm} {Bk : Ex → Fm → H → Prop}
variable {bf bg size wi cr ch bl ol N cl i : Nat} {exl : Bool} {kd wt : Nat → Int} {fu : Nat → Bool} {dv : Nat → AV} {dl : Nat → List Nat}
theorem UnD.app {col : Nat → Nat} {a : Nat} {C : List (List Nat)} {us : List AV} {v : AV} {l : List Nat} (r : UnD h col a C us) (hl : us.length = C.length - a) (ha : a ≤ C.length) (hd : Dv h col v l) : UnD h col a (C ++ [l]) (us ++ [v]) := fun j hj => by
  rw [List.length_append] at hj
  have hj : a + j < C.length + 1 := hj
  rcases Nat.lt_or_ge (a + j) C.length with g | g
  · obtain ⟨dv, e1, e2⟩ := r j g
    exact ⟨dv, by rw [List.getElem?_append_left (by omega)]; exact e1, by rw [at_app_lt g]; exact e2⟩
  · have e : a + j = C.length := by omega
    refine ⟨v, ?_, ?_⟩
    · rw [List.getElem?_append_right (by omega), show j - us.length = 0 by omega]; rfl
    · rw [e, at_app_eq]; exact hd
theorem FrD.app {col : Nat → Nat} {C : List (List Nat)} {ps : List Nat} {pf : List AV} {l : List Nat} (r : FrD h col cr ch C ps pf) (hx : ∀ x ∈ ps, x < C.length) : FrD h col cr ch (C ++ [l]) ps pf := fun j x hj => by
  obtain ⟨dv, e, g⟩ := r j x hj
  exact ⟨dv, e, by rw [at_app_lt (hx x (List.mem_of_getElem? hj))]; exact g⟩
theorem kind5 {d : Nat} (hS : SOk S) (hi : i < N) (hN : N ≤ 1048576) (hch : ch ≤ 7) (hk0 : ¬ kd i = Int.ofNat 0) (hk1 : ¬ kd i = Int.ofNat 1) (hk2 : ¬ kd i = Int.ofNat 2) (hk3 : ¬ kd i = Int.ofNat 3) (hk4 : ¬ kd i = Int.ofNat 4) (hk5 : kd i = Int.ofNat 5)
    (hL : LoopSt h0 bf bg size wi cr ch (.slice bl ol N cl 4 exl) i i F h) (f70 : F.at 70 = some (zI (kd i))) :
    Gives Tryz.prog X (callA Tryz.prog X S L (d + 4)) L (Nat.max 2 Tryz.f4.ntmps) swC F h (LoopSt h0 bf bg size wi cr ch (.slice bl ol N cl 4 exl) i (i + 1)) Bk := by
  obtain ⟨f1, f5, f6, f12, col, u, sv, up, dn, us, ss, pf, qf, a, fl, fr, n, C, ps, qs, now, f7, f8, f9, f10, f11, hnow, hSt, hC, hP, hQ⟩ := hL
  cases qs with
  | nil =>
    have hR : RowK h 6 dn 0 qf := hSt.pq.1
    refine Gives.block ?_
    refine Gives.seq ?_
    refine Gives.region [.p 0, .p 1] (by kernel_rfl) ?_
    refine RP.p rfl (op_bin (qT f70) (show ev _ _ = some (.int .i64 (.ofNat 0)) from rfl) (by first | exact bin_eql_f (by omega) | exact bin_eqlI_f (by first | with_reducible assumption | omega)) ?_)
    refine pA rfl qS ?_
    refine RP.nil ?_
    refine Gives.else_ (qT qS) ?_
    refine Gives.seq ?_
    refine Gives.region [.p 0, .p 1] (by kernel_rfl) ?_
    refine RP.p rfl (op_bin (qT (qN rfl (qN rfl f70))) (show ev _ _ = some (.int .i64 (.ofNat 1)) from rfl) (by first | exact bin_eql_f (by omega) | exact bin_eqlI_f (by first | with_reducible assumption | omega)) ?_)
    refine pA rfl qS ?_
    refine RP.nil ?_
    refine Gives.else_ (qT qS) ?_
    refine Gives.seq ?_
    refine Gives.region [.p 0, .p 1] (by kernel_rfl) ?_
    refine RP.p rfl (op_bin (qT (qN rfl (qN rfl (qN rfl (qN rfl f70))))) (show ev _ _ = some (.int .i64 (.ofNat 2)) from rfl) (by first | exact bin_eql_f (by omega) | exact bin_eqlI_f (by first | with_reducible assumption | omega)) ?_)
    refine pA rfl qS ?_
    refine RP.nil ?_
    refine Gives.else_ (qT qS) ?_
    refine Gives.seq ?_
    refine Gives.region [.p 0, .p 1] (by kernel_rfl) ?_
    refine RP.p rfl (op_bin (qT (qN rfl (qN rfl (qN rfl (qN rfl (qN rfl (qN rfl f70))))))) (show ev _ _ = some (.int .i64 (.ofNat 3)) from rfl) (by first | exact bin_eql_f (by omega) | exact bin_eqlI_f (by first | with_reducible assumption | omega)) ?_)
    refine pA rfl qS ?_
    refine RP.nil ?_
    refine Gives.else_ (qT qS) ?_
    refine Gives.seq ?_
    refine Gives.region [.p 0, .p 1] (by kernel_rfl) ?_
    refine RP.p rfl (op_bin (qT (qN rfl (qN rfl (qN rfl (qN rfl (qN rfl (qN rfl (qN rfl (qN rfl f70))))))))) (show ev _ _ = some (.int .i64 (.ofNat 4)) from rfl) (by first | exact bin_eql_f (by omega) | exact bin_eqlI_f (by first | with_reducible assumption | omega)) ?_)
    refine pA rfl qS ?_
    refine RP.nil ?_
    refine Gives.else_ (qT qS) ?_
    refine Gives.seq ?_
    refine Gives.region [.p 0, .p 1] (by kernel_rfl) ?_
    refine RP.p rfl (op_bin (qT (by repeat (first | with_reducible (first | exact qS | assumption) | refine qN rfl ?_ | exact qO rfl))) (show ev _ _ = some (.int .i64 (.ofNat 5)) from rfl) (by first | exact bin_eql_t (by omega) | exact bin_eqlI_t (by first | with_reducible assumption | omega)) ?_)
    refine pA rfl qS ?_
    refine RP.nil ?_
    refine Gives.then_ (qT qS) ?_
    refine Gives.seq ?_
    refine Gives.region [.p 0, .p 1, .p 2] (by kernel_rfl) ?_
    refine pM rfl (by repeat (first | with_reducible (first | exact qS | assumption) | refine qN rfl ?_ | exact qO rfl)) ?_
    refine RP.p rfl (op_len_row (qT qS) hR Tryz.underlying51 ?_)
    refine RP.p rfl (op_bin (qT qS) (show ev _ _ = some (.int .i64 (.ofNat 0)) from rfl) (by first | exact bin_gtr_f (by omega) | exact bin_gtrI_f (by first | with_reducible assumption | omega)) ?_)
    refine RP.nil ?_
    refine Gives.else_ (qT qS) ?_
    refine Gives.skip ?_
    exact ⟨(by repeat (first | with_reducible (first | exact qS | assumption) | refine qN rfl ?_ | exact qO rfl)), (by repeat (first | with_reducible (first | exact qS | assumption) | refine qN rfl ?_ | exact qO rfl)), (by repeat (first | with_reducible (first | exact qS | assumption) | refine qN rfl ?_ | exact qO rfl)), (by repeat (first | with_reducible (first | exact qS | assumption) | refine qN rfl ?_ | exact qO rfl)), col, u, sv, up, dn, us, ss, pf, qf, a, fl, fr, n, C, ps, [], now, (by repeat (first | with_reducible (first | exact qS | assumption) | refine qN rfl ?_ | exact qO rfl)), (by repeat (first | with_reducible (first | exact qS | assumption) | refine qN rfl ?_ | exact qO rfl)), (by repeat (first | with_reducible (first | exact qS | assumption) | refine qN rfl ?_ | exact qO rfl)), (by repeat (first | with_reducible (first | exact qS | assumption) | refine qN rfl ?_ | exact qO rfl)), (by repeat (first | with_reducible (first | exact qS | assumption) | refine qN rfl ?_ | exact qO rfl)), hnow, hSt, by omega, by omega, by simp⟩
  | cons x qs =>
    have hR : RowK h 6 dn (qs.length + 1) qf := hSt.pq.1
    have hw := hSt.w
    obtain ⟨g1, g2, g3⟩ := hSt.inv.headq
    have g4 := hSt.inv.u
    have g5 := hSt.inv.f
    obtain ⟨lo, wa, rx, hx⟩ := hSt.pqd 0 x rfl
    obtain ⟨dd, rfl⟩ : ∃ dd, x = a + dd := ⟨x - a, by omega⟩
    rw [Nat.add_sub_cancel_left] at g2
    obtain ⟨to, re, st, nw, tm, rp, hCf⟩ := hSt.qf_.1
    have hbu : ∀ b, blkOf u b → ¬ b = bf := fun b hb e => by { have h3 := hSt.pu.2 b hb; rw [e, hSt.qf_.2.1] at h3; cases h3 }
    refine Gives.block ?_
    refine Gives.seq ?_
    refine Gives.region [.p 0, .p 1] (by kernel_rfl) ?_
    refine RP.p rfl (op_bin (qT f70) (show ev _ _ = some (.int .i64 (.ofNat 0)) from rfl) (by first | exact bin_eql_f (by omega) | exact bin_eqlI_f (by first | with_reducible assumption | omega)) ?_)
    refine pA rfl qS ?_
    refine RP.nil ?_
    refine Gives.else_ (qT qS) ?_
    refine Gives.seq ?_
    refine Gives.region [.p 0, .p 1] (by kernel_rfl) ?_
    refine RP.p rfl (op_bin (qT (qN rfl (qN rfl f70))) (show ev _ _ = some (.int .i64 (.ofNat 1)) from rfl) (by first | exact bin_eql_f (by omega) | exact bin_eqlI_f (by first | with_reducible assumption | omega)) ?_)
    refine pA rfl qS ?_
    refine RP.nil ?_
    refine Gives.else_ (qT qS) ?_
    refine Gives.seq ?_
    refine Gives.region [.p 0, .p 1] (by kernel_rfl) ?_
    refine RP.p rfl (op_bin (qT (qN rfl (qN rfl (qN rfl (qN rfl f70))))) (show ev _ _ = some (.int .i64 (.ofNat 2)) from rfl) (by first | exact bin_eql_f (by omega) | exact bin_eqlI_f (by first | with_reducible assumption | omega)) ?_)
    refine pA rfl qS ?_
    refine RP.nil ?_
    refine Gives.else_ (qT qS) ?_
    refine Gives.seq ?_
    refine Gives.region [.p 0, .p 1] (by kernel_rfl) ?_
    refine RP.p rfl (op_bin (qT (qN rfl (qN rfl (qN rfl (qN rfl (qN rfl (qN rfl f70))))))) (show ev _ _ = some (.int .i64 (.ofNat 3)) from rfl) (by first | exact bin_eql_f (by omega) | exact bin_eqlI_f (by first | with_reducible assumption | omega)) ?_)
    refine pA rfl qS ?_
    refine RP.nil ?_
    refine Gives.else_ (qT qS) ?_
    refine Gives.seq ?_
    refine Gives.region [.p 0, .p 1] (by kernel_rfl) ?_
    refine RP.p rfl (op_bin (qT (qN rfl (qN rfl (qN rfl (qN rfl (qN rfl (qN rfl (qN rfl (qN rfl f70))))))))) (show ev _ _ = some (.int .i64 (.ofNat 4)) from rfl) (by first | exact bin_eql_f (by omega) | exact bin_eqlI_f (by first | with_reducible assumption | omega)) ?_)
    refine pA rfl qS ?_
    refine RP.nil ?_
    refine Gives.else_ (qT qS) ?_
    refine Gives.seq ?_
    refine Gives.region [.p 0, .p 1] (by kernel_rfl) ?_
    refine RP.p rfl (op_bin (qT (by repeat (first | with_reducible (first | exact qS | assumption) | refine qN rfl ?_ | exact qO rfl))) (show ev _ _ = some (.int .i64 (.ofNat 5)) from rfl) (by first | exact bin_eql_t (by omega) | exact bin_eqlI_t (by first | with_reducible assumption | omega)) ?_)
    refine pA rfl qS ?_
    refine RP.nil ?_
    refine Gives.then_ (qT qS) ?_
    refine Gives.seq ?_
    refine Gives.region [.p 0, .p 1, .p 2] (by kernel_rfl) ?_
    refine pM rfl (by repeat (first | with_reducible (first | exact qS | assumption) | refine qN rfl ?_ | exact qO rfl)) ?_
    refine RP.p rfl (op_len_row (qT qS) hR Tryz.underlying51 ?_)
    refine RP.p rfl (op_bin (qT qS) (show ev _ _ = some (.int .i64 (.ofNat 0)) from rfl) (by first | exact bin_gtr_t (by omega) | exact bin_gtrI_t (by first | with_reducible assumption | omega)) ?_)
    refine RP.nil ?_
    refine Gives.then_ (qT qS) ?_
    refine Gives.seq ?_
    refine Gives.region [.p 0, .p 1, .p 2, .r 3, .p 4, .e 5 []] (by kernel_rfl) ?_
    refine pM rfl (by repeat (first | with_reducible (first | exact qS | assumption) | refine qN rfl ?_ | exact qO rfl)) ?_
    refine pM rfl (by repeat (first | with_reducible (first | exact qS | assumption) | refine qN rfl ?_ | exact qO rfl)) ?_
    refine RP.p rfl (op_index_row (j := 0) (qT (by repeat (first | with_reducible (first | exact qS | assumption) | refine qN rfl ?_ | exact qO rfl))) hR (show ev _ _ = some (.int .i64 (.ofNat 0)) from rfl) Tryz.underlying51 (by kernel_rfl) (by omega) (fun bI oI _ hld => ?_))
    refine pL rfl (by repeat (first | with_reducible (first | exact qS | assumption) | refine qN rfl ?_ | exact qO rfl)) (hld (wordL ch ((a + dd) % 256) lo wa rx) 62 (by kernel_rfl) (by kernel_rfl) hx) ?_
    refine pM rfl (by repeat (first | with_reducible (first | exact qS | assumption) | refine qN rfl ?_ | exact qO rfl)) ?_
    refine RP.e rfl (op_calls (evs_cons (qT (qN rfl (qN rfl (qN rfl (qN rfl qS))))) (evs_cons (qT (qN rfl qS)) (evs_cons (qT qS) evs_nil))) (by kernel_rfl) (hear_spec hS hw (Int.ofNat now) hSt.pu.1 hbu hCf hch (Nat.mod_lt _ (by decide)) (dd := dd) (by omega) (by omega) g2 g3 (by omega) (by omega)) ?_)
    rintro v h1 ⟨hF1, hq⟩
    have hB : ∀ b, (b = bf) → b < h.next → col b = 1 := fun b hb _ => by { rw [hb]; exact hSt.qf_.2.1 }
    have hR1 := hR.fr hw hF1 (fun b hb e => by have h6 := hSt.pq.2 b hb; rw [e, hSt.qf_.2.1] at h6; cases h6)
    refine RP.nil ?_
    refine Gives.region [.p 0, .p 1, .p 2] (by kernel_rfl) ?_
    refine pM rfl (by repeat (first | with_reducible (first | exact qS | assumption) | refine qN rfl ?_ | exact qO rfl)) ?_
    refine RP.p rfl (op_slice_row (j := 1) (qT (by repeat (first | with_reducible (first | exact qS | assumption) | refine qN rfl ?_ | exact qO rfl))) hR1 rfl Tryz.underlying51 (by kernel_rfl) (by omega) (fun dn' hR' hsub hone => ?_))
    rw [Nat.add_sub_cancel] at hR'
    refine pA rfl qS ?_
    refine RP.nil ?_
    exact (by
      have hd' : ∀ b, blkOf dn' b → colN h col (fun _ => 0) b = 6 := fun b hb => by
        have hb' := hsub b hb
        rw [colN_old b (hR.lt hw b hb')]; exact hSt.pq.2 b hb'
      have hbf : colN h col (fun _ => 0) bf = 1 := by rw [colN_old bf hSt.qf_.2.2]; exact hSt.qf_.2.1
      rcases hq with hq | ⟨u', fl', hU', hsu, hfl, hq⟩
      · exact ⟨(by repeat (first | with_reducible (first | exact qS | assumption) | refine qN rfl ?_ | exact qO rfl)), (by repeat (first | with_reducible (first | exact qS | assumption) | refine qN rfl ?_ | exact qO rfl)), (by repeat (first | with_reducible (first | exact qS | assumption) | refine qN rfl ?_ | exact qO rfl)), (by repeat (first | with_reducible (first | exact qS | assumption) | refine qN rfl ?_ | exact qO rfl)), colN h col (fun _ => 0), u, sv, up, dn', us, ss, pf, _, a, fl, fr, n, C, ps, qs, now, (by repeat (first | with_reducible (first | exact qS | assumption) | refine qN rfl ?_ | exact qO rfl)), (by repeat (first | with_reducible (first | exact qS | assumption) | refine qN rfl ?_ | exact qO rfl)), (by repeat (first | with_reducible (first | exact qS | assumption) | refine qN rfl ?_ | exact qO rfl)), (by repeat (first | with_reducible (first | exact qS | assumption) | refine qN rfl ?_ | exact qO rfl)), (by repeat (first | with_reducible (first | exact qS | assumption) | refine qN rfl ?_ | exact qO rfl)), hnow, ⟨hF1.wf, hSt.f1 hF1 (ne_of_eq hB (by decide)), hSt.o1, ⟨hq, hbf, Nat.lt_of_lt_of_le hSt.qf_.2.2 hF1.next⟩, hSt.qg_.step hw hF1 (ne_of_eq hB (by decide)) colN_old, hSt.pu.step hw hF1 (ne_of_eq hB (by decide)) colN_old, hSt.pud.step hw hF1 (ne_of_eq hB (by decide)) colN_old, hSt.rs.step hw hF1 (ne_of_eq hB (by decide)) colN_old, hSt.rsd.step hw hF1 (ne_of_eq hB (by decide)) colN_old, hSt.pp.step hw hF1 (ne_of_eq hB (by decide)) colN_old, hSt.ppd.step hw hF1 (ne_of_eq hB (by decide)) colN_old, ⟨hR', hd'⟩, hSt.pqd.tail, hSt.inv.lostq⟩, by omega, by omega, by simp at hQ; omega⟩
      · have hI := hSt.inv.heard
        rw [Nat.add_sub_cancel_left] at hI
        have hI' : UInv C.length size (a + dd) fl' (fr - dd) n ps qs := by
          rcases hfl with rfl | rfl
          · exact hI
          · exact hI.rep
        refine ⟨(by repeat (first | with_reducible (first | exact qS | assumption) | refine qN rfl ?_ | exact qO rfl)), (by repeat (first | with_reducible (first | exact qS | assumption) | refine qN rfl ?_ | exact qO rfl)), (by repeat (first | with_reducible (first | exact qS | assumption) | refine qN rfl ?_ | exact qO rfl)), (by repeat (first | with_reducible (first | exact qS | assumption) | refine qN rfl ?_ | exact qO rfl)), colN h col (fun _ => 0), u', sv, up, dn', us.drop dd, ss, pf, _, a + dd, fl', fr - dd, n, C, ps, qs, now, (by repeat (first | with_reducible (first | exact qS | assumption) | refine qN rfl ?_ | exact qO rfl)), (by repeat (first | with_reducible (first | exact qS | assumption) | refine qN rfl ?_ | exact qO rfl)), (by repeat (first | with_reducible (first | exact qS | assumption) | refine qN rfl ?_ | exact qO rfl)), (by repeat (first | with_reducible (first | exact qS | assumption) | refine qN rfl ?_ | exact qO rfl)), (by repeat (first | with_reducible (first | exact qS | assumption) | refine qN rfl ?_ | exact qO rfl)), hnow, ⟨hF1.wf, hSt.f1 hF1 (ne_of_eq hB (by decide)), hSt.o1, ⟨hq, hbf, Nat.lt_of_lt_of_le hSt.qf_.2.2 hF1.next⟩, hSt.qg_.step hw hF1 (ne_of_eq hB (by decide)) colN_old, ⟨?_, fun b hb => ?_⟩, (hSt.pud.step hw hF1 (ne_of_eq hB (by decide)) colN_old).drop, hSt.rs.step hw hF1 (ne_of_eq hB (by decide)) colN_old, hSt.rsd.step hw hF1 (ne_of_eq hB (by decide)) colN_old, hSt.pp.step hw hF1 (ne_of_eq hB (by decide)) colN_old, hSt.ppd.step hw hF1 (ne_of_eq hB (by decide)) colN_old, ⟨hR', hd'⟩, hSt.pqd.tail, hI'⟩, by omega, by omega, by simp at hQ; omega⟩
        · rw [← Nat.sub_sub]; exact hU'
        · have hb' := hsu b hb
          rw [colN_old b (hSt.pu.1.lt hw b hb')]; exact hSt.pu.2 b hb')
theorem kind0_end {F' : Fm} {h1 h3 : H} {col : Nat → Nat} {u sv up dn u' sv' v' : AV} {us ss pf qf : List AV} {a fl fr n now : Nat} {C : List (List Nat)} {ps qs : List Nat} {lv : AV} {to re st nw tm rp : Int} (hi : i < N) (_hN : N ≤ 1048576) (hw0 : WF h0) (hM : Mvs h0 bl ol N kd wt fu dv dl)
    (hSt : UnSt h0 h col bf bg size wi cr ch u sv up dn us ss pf qf a fl fr n C ps qs) (hnow : now ≤ 1099511627776) (hC : C.length ≤ i) (hP : ps.length ≤ i) (hQ : qs.length ≤ i)
    (hl1 : 1 ≤ (dl i).length) (hl2 : (dl i).length ≤ 1017) (hU' : RowK h1 1 u' (C.length - a + 1) (us ++ [v'])) (hDt : Dt h1 h.next v' (dl i)) (hbu' : ∀ b, blkOf u' b → h.next ≤ b ∧ b < h1.next) (hdis : ∀ b, blkOf u' b → ¬ blkOf v' b)
    (hCf' : Cells h1 bf (FopL size u' a fl fr cr ch to re st nw tm rp)) (hF1 : Fr (fun c => c = bf ∨ blkOf u c) h h1) (hF2 : Fr (fun _ => False) h1 (h1.new (.cells 1 (ofL [dv i])))) (hF3 : Fr (blkOf sv) (h1.new (.cells 1 (ofL [dv i]))) h3)
    (hR3 : RowK h3 1 sv' (C.length + 1) (ss ++ [dv i])) (hb3 : ∀ b, blkOf sv' b → b = (h1.new (.cells 1 (ofL [dv i]))).next)
    (e1 : F'.at 1 = some lv) (e5 : F'.at 5 = some (.ptr bf 0)) (e6 : F'.at 6 = some (.ptr bg 0)) (e12 : F'.at 12 = some (nI i)) (e7 : F'.at 7 = some sv') (e8 : F'.at 8 = some up) (e9 : F'.at 9 = some dn) (e10 : F'.at 10 = some (nI n)) (e11 : F'.at 11 = some (nI now)) :
    LoopSt h0 bf bg size wi cr ch lv i (i + 1) F' h3 := by
  have hw := hSt.w
  have hw1 := hF1.wf
  have g1 := hSt.inv.u
  have hbf := hSt.qf_.2.2
  have hbs : ¬ blkOf sv bf := fun e => by { have h3 := hSt.rs.2 bf e; rw [hSt.qf_.2.1] at h3; cases h3 }
  have hX : (h1.new (.cells 1 (ofL [dv i]))).next = h1.next + 1 := rfl
  have hn1 := hF1.next
  have hF23 : Fr (blkOf sv) h1 h3 := ((Fr.refl hw1).then hF2 (fun c hc => hc.elim)).then hF3 (fun c hc => .inl hc)
  have hT : Fr (fun b => b = bf ∨ blkOf u b ∨ blkOf sv b) h h3 := (Fr.mono hF1 (fun b hb _ => by rcases hb with hb | hb; exact .inl hb; exact .inr (.inl hb))).then hF23 (fun c hc => .inl (.inr (.inr hc)))
  have hBc : ∀ b, (b = bf ∨ blkOf u b ∨ blkOf sv b) → b < h.next → col b = 1 ∨ col b = 3 ∨ col b = 4 := fun b hb _ => by
    rcases hb with rfl | hb | hb
    · exact .inl hSt.qf_.2.1
    · exact .inr (.inl (hSt.pu.2 b hb))
    · exact .inr (.inr (hSt.rs.2 b hb))
  have hB : ∀ k, k ≠ 1 → k ≠ 3 → k ≠ 4 → ∀ b, (b = bf ∨ blkOf u b ∨ blkOf sv b) → b < h.next → col b ≠ k := fun k k1 k3 k4 b hb hl e => by
    rcases hBc b hb hl with g | g | g <;> omega
  let g : Nat → Nat := fun b => if b < h1.next then @ite Nat (blkOf u' b) (Classical.propDecidable _) 3 0 else 4
  have hsvlt := hSt.rs.1.lt hw
  have hB0 := hB 0 (by decide) (by decide) (by decide)
  have cu : ∀ b, blkOf u' b → colN h col g b = 3 := fun b hb => by
    rw [colN_new (hbu' b hb).1]
    show (if b < h1.next then _ else _) = 3
    rw [if_pos (hbu' b hb).2, if_pos hb]
  have cv : ∀ b, blkOf v' b → colN h col g b = 0 := fun b hb => by
    rw [colN_new (hDt.2 b hb).1]
    show (if b < h1.next then _ else _) = 0
    rw [if_pos (hDt.2 b hb).2, if_neg (fun e => hdis b e hb)]
  have cs : ∀ b, blkOf sv' b → colN h col g b = 4 := fun b hb => by
    have hb := hb3 b hb
    rw [colN_new (by omega)]
    show (if b < h1.next then _ else _) = 4
    rw [if_neg (by omega)]
  have hul : us.length = C.length - a := by have := hSt.pu.1.1; omega
  have hsl : ss.length = C.length := by have := hSt.rs.1.1; omega
  have hlen : (C ++ [dl i]).length = C.length + 1 := by rw [List.length_append]; rfl
  have hv : Dv h3 (colN h col g) v' (dl i) := ⟨(hDt.fr hw1 hF23 (fun b hb e => by have := (hDt.2 b hb).1; have := hsvlt b e; omega)).1, ⟨hl1, hl2⟩, cv⟩
  have hd : Dv h3 (colN h col g) (dv i) (dl i) := ⟨(hM.fr hw0 (hSt.f1 hT hB0)).i i hi, ⟨hl1, hl2⟩, fun b hb => hSt.o1 b ((hM.i i hi).lt hw0 hl1 b hb)⟩
  refine ⟨e1, e5, e6, e12, colN h col g, u', sv', up, dn, us ++ [v'], ss ++ [dv i], pf, qf, a, fl, fr, n, C ++ [dl i], ps, qs, now, e7, e8, e9, e10, e11, hnow, ⟨hT.wf, hSt.f1 hT hB0, hSt.o1, ⟨⟨to, re, st, nw, tm, rp, hCf'.fr hw1 hF23 hbs⟩, (colN_old bf hbf).trans hSt.qf_.2.1, Nat.lt_of_lt_of_le hbf hT.next⟩,
    hSt.qg_.step hw hT (hB 2 (by decide) (by decide) (by decide)) colN_old, ⟨?_, cu⟩, (hSt.pud.step hw hT hB0 colN_old).app hul (by omega) hv, ⟨by rw [hlen]; exact hR3, cs⟩, (hSt.rsd.step hw hT hB0 colN_old).app (by omega) (Nat.zero_le _) hd,
    hSt.pp.step hw hT (hB 5 (by decide) (by decide) (by decide)) colN_old, (hSt.ppd.step hw hT hB0 colN_old).app (fun x hx => by have := (hSt.inv.p x hx).1; omega), hSt.pq.step hw hT (hB 6 (by decide) (by decide) (by decide)) colN_old, hSt.pqd, by rw [hlen]; exact hSt.inv.send⟩, by rw [hlen]; omega, by omega, by omega⟩
  rw [hlen, show C.length + 1 - a = C.length - a + 1 by omega]
  exact hU'.fr hw1 hF23 (fun b hb e => by have := (hbu' b hb).1; have := hsvlt b e; omega)
theorem kind0 {d : Nat} (hS : SOk S) (hi : i < N) (hcl : N ≤ cl) (hN : N ≤ 1048576) (hw0 : WF h0) (hM : Mvs h0 bl ol N kd wt fu dv dl) (hk0 : kd i = Int.ofNat 0)
    (hL : LoopSt h0 bf bg size wi cr ch (.slice bl ol N cl 4 exl) i i F h) (f70 : F.at 70 = some (zI (kd i))) :
    Gives Tryz.prog X (callA Tryz.prog X S L (d + 2)) L (Nat.max 2 Tryz.f4.ntmps) swC F h (LoopSt h0 bf bg size wi cr ch (.slice bl ol N cl 4 exl) i (i + 1)) Bk := by
  obtain ⟨f1, f5, f6, f12, col, u, sv, up, dn, us, ss, pf, qf, a, fl, fr, n, C, ps, qs, now, f7, f8, f9, f10, f11, hnow, hSt, hC, hP, hQ⟩ := hL
  have hMh := hM.fr hw0 hSt.f0
  have hD := hMh.d i hi
  have hw := hSt.w
  obtain ⟨i26, hi26, hs26, hb26⟩ := info26
  obtain ⟨to, re, st, nw, tm, rp, hCf⟩ := hSt.qf_.1
  have hbu : ¬ blkOf u bf := fun e => by { have h3 := hSt.pu.2 bf e; rw [hSt.qf_.2.1] at h3; cases h3 }
  have hbs : ¬ blkOf sv bf := fun e => by { have h3 := hSt.rs.2 bf e; rw [hSt.qf_.2.1] at h3; cases h3 }
  have g1 := hSt.inv.u
  refine Gives.block ?_
  refine Gives.seq ?_
  refine Gives.region [.p 0, .p 1] (by kernel_rfl) ?_
  refine RP.p rfl (op_bin (qT f70) (show ev _ _ = some (.int .i64 (.ofNat 0)) from rfl) (by first | exact bin_eql_t (by omega) | exact bin_eqlI_t (by first | with_reducible assumption | omega)) ?_)
  refine pA rfl qS ?_
  refine RP.nil ?_
  refine Gives.then_ (qT qS) ?_
  refine Gives.seq ?_
  refine Gives.region [.p 0, .p 1, .p 2, .p 3, .p 4, .r 5, .e 6 [], .p 7] (by kernel_rfl) ?_
  refine pM rfl (qN rfl (qN rfl f5)) ?_
  refine pM rfl (qN rfl (qN rfl (qN rfl f1))) ?_
  refine pM rfl (qN rfl (qN rfl (qN rfl (qN rfl f12)))) ?_
  refine RP.p rfl (op_indexAddr (qT (by repeat (first | with_reducible (first | exact qS | assumption) | refine qN rfl ?_ | exact qO rfl))) (qT (by repeat (first | with_reducible (first | exact qS | assumption) | refine qN rfl ?_ | exact qO rfl))) Tryz.underlying44 (by kernel_rfl) hi hcl ?_)
  refine pF (off := 1) rfl qS (by kernel_rfl) ?_
  refine RP.r rfl (op_load (qT (by repeat (first | with_reducible (first | exact qS | assumption) | refine qN rfl ?_ | exact qO rfl))) hD ?_)
  refine RP.e rfl (op_calls (evs_cons (qT (qN rfl (qN rfl (qN rfl (qN rfl (qN rfl qS)))))) (evs_cons (qT qS) evs_nil)) (by kernel_rfl) (send_spec hS hw hSt.pu.1 hbu hCf (hMh.i i hi)) ?_)
  rintro v h1 ⟨r, rfl, hq0, hq1⟩
  refine RP.p rfl (op_bin (qT (by repeat (first | with_reducible (first | exact qS | assumption) | refine qN rfl ?_ | exact qO rfl))) (show ev _ _ = some (.int .i64 (.ofNat 0)) from rfl) bin_eqlN ?_)
  refine RP.nil ?_
  refine Gives.cond (qT qS) (fun hb => ?_) (fun hb => ?_)
  · skip
    have hr : r = 0 := of_decide_eq_true hb
    obtain ⟨hl1, hl2, hm, u', v', hU', hDt, hbu', hdis, hCf', hF1⟩ := hq1 hr
    have hB0 : ∀ b, (b = bf ∨ blkOf u b) → b < h.next → col b ≠ 0 := fun b hb _ => Or.elim hb (fun e => by rw [e, hSt.qf_.2.1]; decide) (fun e => by rw [hSt.pu.2 b e]; decide)
    have hM1 := hM.fr hw0 (hSt.f1 hF1 hB0)
    have hD1 := hM1.d i hi
    obtain ⟨bv, ov, cv, xv, hvs⟩ := (hM.i i hi).slice hl1
    have hw1 := hF1.wf
    have hS1 : RowK h1 1 sv C.length ss := hSt.rs.1.fr hw hF1 (fun b hb e => Or.elim e (fun e => by have h4 := hSt.rs.2 b hb; rw [e, hSt.qf_.2.1] at h4; cases h4) (fun e => by have h4 := hSt.rs.2 b hb; rw [hSt.pu.2 b e] at h4; cases h4))
    refine Gives.region [.p 0, .p 1, .p 2, .p 3, .p 4, .r 5, .p 6, .e 7 [], .p 8] (by kernel_rfl) ?_
    refine pM rfl (by repeat (first | with_reducible (first | exact qS | assumption) | refine qN rfl ?_ | exact qO rfl)) ?_
    refine pM rfl (by repeat (first | with_reducible (first | exact qS | assumption) | refine qN rfl ?_ | exact qO rfl)) ?_
    refine pM rfl (by repeat (first | with_reducible (first | exact qS | assumption) | refine qN rfl ?_ | exact qO rfl)) ?_
    refine RP.p rfl (op_indexAddr (qT (by repeat (first | with_reducible (first | exact qS | assumption) | refine qN rfl ?_ | exact qO rfl))) (qT (by repeat (first | with_reducible (first | exact qS | assumption) | refine qN rfl ?_ | exact qO rfl))) Tryz.underlying44 (by kernel_rfl) hi hcl ?_)
    refine pF (off := 1) rfl qS (by kernel_rfl) ?_
    refine RP.r rfl (op_load (qT (by repeat (first | with_reducible (first | exact qS | assumption) | refine qN rfl ?_ | exact qO rfl))) hD1 ?_)
    refine RP.p rfl (op_buildSlice (e := 26) (s := 1) (z := .snil) (cs := [dv i]) Tryz.underlying49 (by kernel_rfl) (by kernel_rfl) (evParts_cons (qT (by repeat (first | with_reducible (first | exact qS | assumption) | refine qN rfl ?_ | exact qO rfl))) evParts_nil) rfl (by rw [hvs]; rfl) ?_)
    have hF2 : Fr (fun _ => False) h1 (h1.new (.cells 1 (ofL [dv i]))) := (Fr.refl hw1).new _
    obtain ⟨sv', h3, ha, hR3, hF3, hb3, hn3⟩ := append_rowK (bytes := i26.bytes) (news := [dv i]) hF2.wf (hS1.fr hw1 hF2 (fun _ _ e => e)) (by decide) rfl (by rw [hb26]; omega) (by omega)
    refine RP.e rfl (op_append (qT (by repeat (first | with_reducible (first | exact qS | assumption) | refine qN rfl ?_ | exact qO rfl))) (qT (by repeat (first | with_reducible (first | exact qS | assumption) | refine qN rfl ?_ | exact qO rfl))) (appendA_of Tryz.underlying49 hi26 (z := .snil) (by kernel_rfl) rfl hs26 (srcA_one Tryz.underlying49 (obj_new_same (by simp)) rfl (by rw [hvs]; rfl)) (by rw [hs26] at *; exact ha)) ?_)
    refine pA rfl qS ?_
    refine RP.nil ?_
    exact (kind0_end hi hN hw0 hM hSt hnow hC hP hQ hl1 hl2 hU' hDt hbu' hdis hCf' hF1 hF2 hF3 hR3 hb3 (by repeat (first | with_reducible (first | exact qS | assumption) | refine qN rfl ?_ | exact qO rfl)) (by repeat (first | with_reducible (first | exact qS | assumption) | refine qN rfl ?_ | exact qO rfl)) (by repeat (first | with_reducible (first | exact qS | assumption) | refine qN rfl ?_ | exact qO rfl)) (by repeat (first | with_reducible (first | exact qS | assumption) | refine qN rfl ?_ | exact qO rfl)) (by repeat (first | with_reducible (first | exact qS | assumption) | refine qN rfl ?_ | exact qO rfl)) (by repeat (first | with_reducible (first | exact qS | assumption) | refine qN rfl ?_ | exact qO rfl)) (by repeat (first | with_reducible (first | exact qS | assumption) | refine qN rfl ?_ | exact qO rfl)) (by repeat (first | with_reducible (first | exact qS | assumption) | refine qN rfl ?_ | exact qO rfl)) (by repeat (first | with_reducible (first | exact qS | assumption) | refine qN rfl ?_ | exact qO rfl)))
  · skip
    have hr : r ≠ 0 := of_decide_eq_false hb
    obtain rfl := hq0 hr
    refine Gives.skip ?_
    exact ⟨(by repeat (first | with_reducible (first | exact qS | assumption) | refine qN rfl ?_ | exact qO rfl)), (by repeat (first | with_reducible (first | exact qS | assumption) | refine qN rfl ?_ | exact qO rfl)), (by repeat (first | with_reducible (first | exact qS | assumption) | refine qN rfl ?_ | exact qO rfl)), (by repeat (first | with_reducible (first | exact qS | assumption) | refine qN rfl ?_ | exact qO rfl)), col, u, sv, up, dn, us, ss, pf, qf, a, fl, fr, n, C, ps, qs, now, (by repeat (first | with_reducible (first | exact qS | assumption) | refine qN rfl ?_ | exact qO rfl)), (by repeat (first | with_reducible (first | exact qS | assumption) | refine qN rfl ?_ | exact qO rfl)), (by repeat (first | with_reducible (first | exact qS | assumption) | refine qN rfl ?_ | exact qO rfl)), (by repeat (first | with_reducible (first | exact qS | assumption) | refine qN rfl ?_ | exact qO rfl)), (by repeat (first | with_reducible (first | exact qS | assumption) | refine qN rfl ?_ | exact qO rfl)), hnow, hSt, by omega, by omega, by omega⟩
end Go.Abs
namespace Go.Abs
open Go.Proofs
variable {X : Ext0} {S : Sums} {L : Nat} {h0 h : H} {F : Fm} {Bk : Ex → Fm → H → Prop}
variable {bf bg size wi cr ch bl ol N cl i : Nat} {exl : Bool} {kd wt : Nat → Int} {fu : Nat → Bool} {dv : Nat → AV} {dl : Nat → List Nat}
theorem NextPost.shape {h1 : H} {a fl fr m : Nat} {u v : AV} {D : Nat → List Nat} (r : NextPost h bf size a fl fr cr ch m u D v h1) (hD : ∀ j, j < m → 1 ≤ (D j).length) :
    ∃ x ok, v = .tup [.agg x, .bool ok] ∧ x.length = 6 ∧ x.all AV.one = true ∧ Fr (fun c => c = bf) h h1 ∧ (ok = false → FopC h1 bf size u a fl fr cr ch) ∧
      (ok = true → ∃ f1 v', (f1 = fl ∨ f1 = 0) ∧ f1 < size ∧ f1 < m ∧ x = frameL cr ch ((a + f1) % 256) v' ∧ Dt h1 h.next v' (D f1) ∧ FopC h1 bf size u a (f1 + 1) (max fr (f1 + 1)) cr ch) := by
  obtain ⟨hF, ⟨rfl, hC⟩ | ⟨f1, v', h1', h2, h3, rfl, hDt, hC⟩⟩ := r
  · exact ⟨zero6, false, rfl, rfl, rfl, hF, fun _ => hC, fun e => by cases e⟩
  · refine ⟨_, true, rfl, rfl, ?_, hF, (fun e => by cases e), fun _ => ⟨f1, v', h1', h2, h3, rfl, hDt, hC⟩⟩
    obtain ⟨_, _, _, _, e⟩ := hDt.1.slice (hD f1 h3)
    rw [e]; rfl
theorem kind1_end {F' : Fm} {h1 hx h5 : H} {col : Nat → Nat} {u sv up dn up' v' : AV} {us ss pf qf : List AV} {a fl fr n f1 now : Nat} {C : List (List Nat)} {ps qs : List Nat} {lv : AV}
    (hSt : UnSt h0 h col bf bg size wi cr ch u sv up dn us ss pf qf a fl fr n C ps qs) (hnow : now ≤ 1099511627776) (hC : C.length ≤ i) (hP : ps.length ≤ i) (hQ : qs.length ≤ i)
    (hf1 : f1 = fl ∨ f1 = 0) (hfs : f1 < size) (hfm : f1 < C.length - a) (hl : 1 ≤ (at_ C (a + f1)).length ∧ (at_ C (a + f1)).length ≤ 1017) (hDt : Dt h1 h.next v' (at_ C (a + f1))) (hFc : FopC h1 bf size u a (f1 + 1) (max fr (f1 + 1)) cr ch)
    (hF1 : Fr (fun c => c = bf) h h1) (hG : Fr (fun _ => False) h1 hx) (hF3 : Fr (blkOf up) hx h5)
    (hR3 : RowK h5 6 up' (ps.length + 1) (pf ++ frameL cr ch ((a + f1) % 256) v')) (hb3 : ∀ b, blkOf up' b → b = hx.next)
    (e1 : F'.at 1 = some lv) (e5 : F'.at 5 = some (.ptr bf 0)) (e6 : F'.at 6 = some (.ptr bg 0)) (e12 : F'.at 12 = some (nI i)) (e7 : F'.at 7 = some sv) (e8 : F'.at 8 = some up') (e9 : F'.at 9 = some dn) (e10 : F'.at 10 = some (nI n)) (e11 : F'.at 11 = some (nI now)) :
    LoopSt h0 bf bg size wi cr ch lv i (i + 1) F' h5 := by
  have hw := hSt.w
  have hw1 := hF1.wf
  have hbf := hSt.qf_.2.2
  have hbp : ¬ blkOf up bf := fun e => by { have h3 := hSt.pp.2 bf e; rw [hSt.qf_.2.1] at h3; cases h3 }
  have hn1 := hF1.next
  have hnx := hG.next
  have hF13 : Fr (blkOf up) h1 h5 := ((Fr.refl hw1).then hG (fun c hc => hc.elim)).then hF3 (fun c hc => .inl hc)
  have hT : Fr (fun b => b = bf ∨ blkOf up b) h h5 := (Fr.mono hF1 (fun b hb _ => .inl hb)).then hF13 (fun c hc => .inl (.inr hc))
  have hB : ∀ k, k ≠ 1 → k ≠ 5 → ∀ b, (b = bf ∨ blkOf up b) → b < h.next → col b ≠ k := fun k k1 k5 b hb hl e => by
    rcases hb with rfl | hb
    · exact k1 (e.symm.trans hSt.qf_.2.1)
    · exact k5 (e.symm.trans (hSt.pp.2 b hb))
  let g : Nat → Nat := fun b => if b < hx.next then 0 else 5
  have hB0 := hB 0 (by decide) (by decide)
  have huplt := hSt.pp.1.lt hw
  have cv : ∀ b, blkOf v' b → colN h col g b = 0 := fun b hb => by
    rw [colN_new (hDt.2 b hb).1]
    exact if_pos (by have := (hDt.2 b hb).2; omega)
  have cp : ∀ b, blkOf up' b → colN h col g b = 5 := fun b hb => by
    have hb := hb3 b hb
    rw [colN_new (by omega)]
    exact if_neg (by omega)
  have hpl : pf.length = ps.length * 6 := hSt.pp.1.1
  have hv : Dv h5 (colN h col g) v' (at_ C (a + f1)) := ⟨(hDt.fr hw1 hF13 (fun b hb e => by have := (hDt.2 b hb).1; have := huplt b e; omega)).1, hl, cv⟩
  have hI : UInv C.length size a (f1 + 1) (max fr (f1 + 1)) n (ps ++ [a + f1]) qs := by
    rcases hf1 with rfl | rfl
    · exact hSt.inv.take hfs (by omega)
    · exact hSt.inv.rep.take hfs (by omega)
  have hlen : (ps ++ [a + f1]).length = ps.length + 1 := by rw [List.length_append]; rfl
  exact ⟨e1, e5, e6, e12, colN h col g, u, sv, up', dn, us, ss, _, qf, a, f1 + 1, max fr (f1 + 1), n, C, ps ++ [a + f1], qs, now, e7, e8, e9, e10, e11, hnow, ⟨hT.wf, hSt.f1 hT hB0, hSt.o1, ⟨hFc.fr hw1 hF13 hbp, (colN_old bf hbf).trans hSt.qf_.2.1, Nat.lt_of_lt_of_le hbf hT.next⟩,
    hSt.qg_.step hw hT (hB 2 (by decide) (by decide)) colN_old, hSt.pu.step hw hT (hB 3 (by decide) (by decide)) colN_old, hSt.pud.step hw hT hB0 colN_old, hSt.rs.step hw hT (hB 4 (by decide) (by decide)) colN_old, hSt.rsd.step hw hT hB0 colN_old,
    ⟨by rw [hlen]; exact hR3, cp⟩, (hSt.ppd.step hw hT hB0 colN_old).snoc hpl hv, hSt.pq.step hw hT (hB 6 (by decide) (by decide)) colN_old, hSt.pqd, hI⟩, by omega, by rw [hlen]; omega, by omega⟩
theorem kind1 {d : Nat} (hS : SOk S) (hi : i < N) (hN : N ≤ 1048576) (hk0 : ¬ kd i = Int.ofNat 0) (hk1 : kd i = Int.ofNat 1)
    (hL : LoopSt h0 bf bg size wi cr ch (.slice bl ol N cl 4 exl) i i F h) (f70 : F.at 70 = some (zI (kd i))) :
    Gives Tryz.prog X (callA Tryz.prog X S L (d + 3)) L (Nat.max 2 Tryz.f4.ntmps) swC F h (LoopSt h0 bf bg size wi cr ch (.slice bl ol N cl 4 exl) i (i + 1)) Bk := by
  obtain ⟨f1, f5, f6, f12, col, u, sv, up, dn, us, ss, pf, qf, a, fl, fr, n, C, ps, qs, now, f7, f8, f9, f10, f11, hnow, hSt, hC, hP, hQ⟩ := hL
  have hwh := hSt.w
  obtain ⟨i56, hi56, hs56, hb56⟩ := info56
  obtain ⟨to, re, st, nw, tm, rp, hCf⟩ := hSt.qf_.1
  have hbu : ∀ b, blkOf u b → ¬ b = bf := fun b hb e => by { have h3 := hSt.pu.2 b hb; rw [e, hSt.qf_.2.1] at h3; cases h3 }
  have hbp : ∀ b, blkOf up b → ¬ b = bf := fun b hb e => by { have h3 := hSt.pp.2 b hb; rw [e, hSt.qf_.2.1] at h3; cases h3 }
  have g1 := hSt.inv.u
  have hUn : Units h bf (C.length - a) us (fun j => at_ C (a + j)) := fun j hj => by
    obtain ⟨dv, e, g2, g3, g4⟩ := hSt.pud j (by omega)
    exact ⟨dv, e, g2, fun b hb e => by { have h3 := g4 b hb; rw [e, hSt.qf_.2.1] at h3; cases h3 }, g3.1, g3.2⟩
  have hlen : ∀ j, j < C.length - a → 1 ≤ (at_ C (a + j)).length ∧ (at_ C (a + j)).length ≤ 1017 := fun j hj => by
    obtain ⟨_, _, _, _, g3⟩ := hUn j hj
    exact g3
  refine Gives.block ?_
  refine Gives.seq ?_
  refine Gives.region [.p 0, .p 1] (by kernel_rfl) ?_
  refine RP.p rfl (op_bin (qT f70) (show ev _ _ = some (.int .i64 (.ofNat 0)) from rfl) (by first | exact bin_eql_f (by omega) | exact bin_eqlI_f (by first | with_reducible assumption | omega)) ?_)
  refine pA rfl qS ?_
  refine RP.nil ?_
  refine Gives.else_ (qT qS) ?_
  refine Gives.seq ?_
  refine Gives.region [.p 0, .p 1] (by kernel_rfl) ?_
  refine RP.p rfl (op_bin (qT (qN rfl (qN rfl f70))) (show ev _ _ = some (.int .i64 (.ofNat 1)) from rfl) (by first | exact bin_eql_t (by omega) | exact bin_eqlI_t (by first | with_reducible assumption | omega)) ?_)
  refine pA rfl qS ?_
  refine RP.nil ?_
  refine Gives.then_ (qT qS) ?_
  refine Gives.seq ?_
  refine Gives.region [.p 0, .p 1, .e 2 [], .p 3, .p 4, .p 5, .p 6, .e 7 [], .p 8] (by kernel_rfl) ?_
  refine pM rfl (qN rfl (qN rfl (qN rfl (qN rfl f5)))) ?_
  refine pM rfl (qN rfl (qN rfl (qN rfl (qN rfl (qN rfl f11))))) ?_
  refine RP.e rfl (op_calls (evs_cons (qT (qN rfl qS)) (evs_cons (qT qS) evs_nil)) (by kernel_rfl) (next_spec hS hwh (Int.ofNat now) hSt.pu.1 hbu hUn hCf hSt.inv.s1 hSt.inv.s (by omega)) ?_)
  rintro v h1 hq
  obtain ⟨x, ok, rfl, hx6, hx1, hF1, hq0, hq1⟩ := hq.shape (fun j hj => (hlen j hj).1)
  have hw1 := hF1.wf
  refine pM rfl qS ?_
  refine RP.p rfl (op_extract (qT qS) rfl ?_)
  refine RP.p rfl (op_extract (qT (qN rfl qS)) rfl ?_)
  refine RP.p rfl (op_allocC (v := .agg zero6) (by kernel_rfl) hw1 (fun h2 b13 e13 hB13 hG1 hn => ?_))
  refine RP.e rfl (op_storeW (m := 6) (qT (by repeat (first | with_reducible (first | exact qS | assumption) | refine qN rfl ?_ | exact qO rfl))) (qT (by repeat (first | with_reducible (first | exact qS | assumption) | refine qN rfl ?_ | exact qO rfl))) hG1.wf hB13 (by kernel_rfl) hx6 rfl hx1 (fun h3 hC1 hG2 hn2 => ?_))
  replace hB13 := hC1
  have hG : Fr (fun _ => False) h1 h3 := hG1.then hG2 (fun c hc => .inr (by have hc : c = b13 := hc; omega))
  have hw := hG.wf
  refine pA rfl (qN rfl qS) ?_
  refine RP.nil ?_
  refine Gives.seq ?_
  refine Gives.region [.p 0] (by kernel_rfl) ?_
  refine pM rfl qS ?_
  refine RP.nil ?_
  refine Gives.cond (qT qS) (fun hb => ?_) (fun hb => ?_)
  · skip
    obtain ⟨f1', v', hf1, hfs, hfm, rfl, hDt, hFc⟩ := hq1 hb
    refine Gives.region [.p 0, .r 1, .p 2, .e 3 [], .p 4] (by kernel_rfl) ?_
    refine pM rfl (by repeat (first | with_reducible (first | exact qS | assumption) | refine qN rfl ?_ | exact qO rfl)) ?_
    refine pL rfl (by repeat (first | with_reducible (first | exact qS | assumption) | refine qN rfl ?_ | exact qO rfl)) (hB13.loadG (m := 6) (vs := frameL cr ch ((a + f1') % 256) v') (by kernel_rfl) (by kernel_rfl) rfl (Nat.le_of_ble_eq_true rfl)) ?_
    refine RP.p rfl (op_buildSlice (e := 56) (s := 6) (z := .agg zero6) (cs := frameL cr ch ((a + f1') % 256) v') Tryz.underlying50 (by kernel_rfl) (by kernel_rfl) (evParts_cons (qT (by repeat (first | with_reducible (first | exact qS | assumption) | refine qN rfl ?_ | exact qO rfl))) evParts_nil) rfl rfl ?_)
    have hF2 : Fr (fun _ => False) h3 (h3.new (.cells 6 (ofL (frameL cr ch ((a + f1') % 256) v')))) := (Fr.refl hw).new _
    obtain ⟨up', h5, ha, hR3, hF3, hb3, hn3⟩ := append_rowK (bytes := i56.bytes) (news := frameL cr ch ((a + f1') % 256) v') hF2.wf ((hSt.pp.1.fr hwh hF1 hbp).fr hw1 (hG.trans hF2) (fun _ _ e => e)) (by decide) rfl (by have := Nat.mul_le_mul_left (2 * (ps.length + 1)) hb56; omega) (by omega)
    refine RP.e rfl (op_append (qT (by repeat (first | with_reducible (first | exact qS | assumption) | refine qN rfl ?_ | exact qO rfl))) (qT (by repeat (first | with_reducible (first | exact qS | assumption) | refine qN rfl ?_ | exact qO rfl))) (appendA_ofK (q := 6) Tryz.underlying50 hi56 (z := .agg zero6) (by kernel_rfl) rfl hs56 (by decide) (srcA_oneK (cs := frameL cr ch ((a + f1') % 256) v') Tryz.underlying50 (by decide) (obj_new_same (by simp)) rfl (fun j hj => by unfold ofL; rw [at_puts, if_pos ⟨Nat.zero_le _, by show j < 0 + 6; omega⟩, Nat.sub_zero]) hx1) ha) ?_)
    refine pA rfl qS ?_
    refine RP.nil ?_
    exact (kind1_end hSt hnow hC hP hQ hf1 hfs hfm (hlen f1' hfm) hDt hFc hF1 (hG.trans hF2) hF3 hR3 hb3 (by repeat (first | with_reducible (first | exact qS | assumption) | refine qN rfl ?_ | exact qO rfl)) (by repeat (first | with_reducible (first | exact qS | assumption) | refine qN rfl ?_ | exact qO rfl)) (by repeat (first | with_reducible (first | exact qS | assumption) | refine qN rfl ?_ | exact qO rfl)) (by repeat (first | with_reducible (first | exact qS | assumption) | refine qN rfl ?_ | exact qO rfl)) (by repeat (first | with_reducible (first | exact qS | assumption) | refine qN rfl ?_ | exact qO rfl)) (by repeat (first | with_reducible (first | exact qS | assumption) | refine qN rfl ?_ | exact qO rfl)) (by repeat (first | with_reducible (first | exact qS | assumption) | refine qN rfl ?_ | exact qO rfl)) (by repeat (first | with_reducible (first | exact qS | assumption) | refine qN rfl ?_ | exact qO rfl)) (by repeat (first | with_reducible (first | exact qS | assumption) | refine qN rfl ?_ | exact qO rfl)))
  · skip
    have hT : Fr (fun c => c = bf) h h3 := hF1.then hG (fun c hc => hc.elim)
    have hB : ∀ b, (b = bf) → b < h.next → col b = 1 := fun b hb _ => by { rw [hb]; exact hSt.qf_.2.1 }
    refine Gives.skip ?_
    exact ⟨(by repeat (first | with_reducible (first | exact qS | assumption) | refine qN rfl ?_ | exact qO rfl)), (by repeat (first | with_reducible (first | exact qS | assumption) | refine qN rfl ?_ | exact qO rfl)), (by repeat (first | with_reducible (first | exact qS | assumption) | refine qN rfl ?_ | exact qO rfl)), (by repeat (first | with_reducible (first | exact qS | assumption) | refine qN rfl ?_ | exact qO rfl)), colN h col (fun _ => 0), u, sv, up, dn, us, ss, pf, qf, a, fl, fr, n, C, ps, qs, now, (by repeat (first | with_reducible (first | exact qS | assumption) | refine qN rfl ?_ | exact qO rfl)), (by repeat (first | with_reducible (first | exact qS | assumption) | refine qN rfl ?_ | exact qO rfl)), (by repeat (first | with_reducible (first | exact qS | assumption) | refine qN rfl ?_ | exact qO rfl)), (by repeat (first | with_reducible (first | exact qS | assumption) | refine qN rfl ?_ | exact qO rfl)), (by repeat (first | with_reducible (first | exact qS | assumption) | refine qN rfl ?_ | exact qO rfl)), hnow, ⟨hT.wf, hSt.f1 hT (ne_of_eq hB (by decide)), hSt.o1, ⟨(hq0 hb).fr hw1 hG (fun e => e), (colN_old bf hSt.qf_.2.2).trans hSt.qf_.2.1, Nat.lt_of_lt_of_le hSt.qf_.2.2 hT.next⟩, hSt.qg_.step hwh hT (ne_of_eq hB (by decide)) colN_old, hSt.pu.step hwh hT (ne_of_eq hB (by decide)) colN_old, hSt.pud.step hwh hT (ne_of_eq hB (by decide)) colN_old, hSt.rs.step hwh hT (ne_of_eq hB (by decide)) colN_old, hSt.rsd.step hwh hT (ne_of_eq hB (by decide)) colN_old, hSt.pp.step hwh hT (ne_of_eq hB (by decide)) colN_old, hSt.ppd.step hwh hT (ne_of_eq hB (by decide)) colN_old, hSt.pq.step hwh hT (ne_of_eq hB (by decide)) colN_old, hSt.pqd, hSt.inv⟩, by omega, by omega, by omega⟩
end Go.Abs
