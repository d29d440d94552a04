/- What one move does to a channel: time passes, a frame or a report is lost. No condition. -/
import Derived.Test.YtkihpcjfhilgcaaGreatU07
namespace Go.Abs
open Go.Proofs
def sub : Code → List Bool → Code
  | .seq a _, false :: r => sub a r
  | .seq _ b, true :: r => sub b r
  | .cond _ a _, false :: r => sub a r
  | .cond _ _ b, true :: r => sub b r
  | .block _ b, _ :: r => sub b r
  | .loop b, _ :: r => sub b r
  | c, _ => c
noncomputable def code4 : Code := Tryz.f4.body.getD .skip
noncomputable def swC : Code := sub code4 [true, true, true, true, true, true, true, true, true, false, true, true, true, true, false, true, false, true]
structure Mvs (h : H) (bl ol N : Nat) (kd wt : Nat → Int) (fu : Nat → Bool) (dv : Nat → AV) (dl : Nat → List Nat) : Prop where
  k : ∀ i, i < N → loadA Tryz.prog h 3 bl (ol + i * 4 + 0) = some (zI (kd i))
  d : ∀ i, i < N → loadA Tryz.prog h 26 bl (ol + i * 4 + 1) = some (dv i)
  i : ∀ i, i < N → Img h (dv i) (dl i)
  f : ∀ i, i < N → loadA Tryz.prog h 4 bl (ol + i * 4 + 2) = some (.bool (fu i))
  w : ∀ i, i < N → loadA Tryz.prog h 3 bl (ol + i * 4 + 3) = some (zI (wt i))
theorem Mvs.fr {h h' : H} {bl ol N : Nat} {kd wt : Nat → Int} {fu : Nat → Bool} {dv : Nat → AV} {dl : Nat → List Nat} (r : Mvs h bl ol N kd wt fu dv dl) (w : WF h) (f : Fr (fun _ => False) h h') : Mvs h' bl ol N kd wt fu dv dl :=
  ⟨fun i hi => loadA_frU w f (r.k i hi) (fun e => e), fun i hi => loadA_frU w f (r.d i hi) (fun e => e), fun i hi => (r.i i hi).frC w f (fun _ _ e => e), fun i hi => loadA_frU w f (r.f i hi) (fun e => e), fun i hi => loadA_frU w f (r.w i hi) (fun e => e)⟩
def LoopSt (h0 : H) (bf bg size wi cr ch : Nat) (lv : AV) (i k : Nat) (F : Fm) (h : H) : Prop :=
  F.at 1 = some lv ∧ F.at 5 = some (.ptr bf 0) ∧ F.at 6 = some (.ptr bg 0) ∧ F.at 12 = some (nI i) ∧
  ∃ col u sv up dn us ss pf qf a fl fr n C ps qs now, F.at 7 = some sv ∧ F.at 8 = some up ∧ F.at 9 = some dn ∧ F.at 10 = some (nI n) ∧ F.at 11 = some (nI now) ∧ now ≤ 1099511627776 ∧
    UnSt h0 h col bf bg size wi cr ch u sv up dn us ss pf qf a fl fr n C ps qs ∧ C.length ≤ k ∧ ps.length ≤ k ∧ qs.length ≤ k
theorem WdD.tail {ch x : Nat} {qs : List Nat} {qf : List AV} (r : WdD ch (x :: qs) qf) : WdD ch qs (qf.drop (1 * 6)) := fun j y hj => by
  obtain ⟨lo, wa, re, e⟩ := r (j + 1) y (by simpa using hj)
  refine ⟨lo, wa, re, ?_⟩
  rw [List.drop_drop, ← e]; congr 2; omega
theorem FrD.tail {h : H} {col : Nat → Nat} {cr ch x : Nat} {C : List (List Nat)} {ps : List Nat} {pf : List AV} (r : FrD h col cr ch C (x :: ps) pf) : FrD h col cr ch C ps (pf.drop (1 * 6)) := fun j y hj => by
  obtain ⟨dv, e, g⟩ := r (j + 1) y (by simpa using hj)
  refine ⟨dv, ?_, g⟩
  rw [List.drop_drop, ← e]; congr 2; omega
theorem WdD.snoc {ch n : Nat} {qs : List Nat} {qf : List AV} {lo wa re : Bool} (r : WdD ch qs qf) (hl : qf.length = qs.length * 6) : WdD ch (qs ++ [n]) (qf ++ wordL ch (n % 256) lo wa re) := fun j y hj => by
  rcases Nat.lt_or_ge j qs.length with h | h
  · rw [List.getElem?_append_left h] at hj
    obtain ⟨lo', wa', re', e⟩ := r j y hj
    refine ⟨lo', wa', re', ?_⟩
    rw [List.drop_append_of_le_length (by omega), List.take_append_of_le_length (by rw [List.length_drop]; omega), e]
  · rw [List.getElem?_append_right h] at hj
    obtain ⟨rfl, hy⟩ : j = qs.length ∧ n = y := by
      have := (List.getElem?_eq_some_iff.1 hj).1
      simp at this
      have e : j - qs.length = 0 := by omega
      rw [e] at hj
      exact ⟨by omega, by simpa using hj⟩
    subst hy
    refine ⟨lo, wa, re, ?_⟩
    rw [← hl, List.drop_left]; rfl
theorem FrD.snoc {h : H} {col : Nat → Nat} {cr ch n : Nat} {C : List (List Nat)} {ps : List Nat} {pf : List AV} {v : AV} (r : FrD h col cr ch C ps pf) (hl : pf.length = ps.length * 6) (hd : Dv h col v (at_ C n)) : FrD h col cr ch C (ps ++ [n]) (pf ++ frameL cr ch (n % 256) v) := fun j y hj => by
  rcases Nat.lt_or_ge j ps.length with h | h
  · rw [List.getElem?_append_left h] at hj
    obtain ⟨dv', e, g⟩ := r j y hj
    refine ⟨dv', ?_, g⟩
    rw [List.drop_append_of_le_length (by omega), List.take_append_of_le_length (by rw [List.length_drop]; omega), e]
  · rw [List.getElem?_append_right h] at hj
    obtain ⟨rfl, hy⟩ : j = ps.length ∧ n = y := by
      have := (List.getElem?_eq_some_iff.1 hj).1
      simp at this
      have e : j - ps.length = 0 := by omega
      rw [e] at hj
      exact ⟨by omega, by simpa using hj⟩
    subst hy
    refine ⟨v, ?_, hd⟩
    rw [← hl, List.drop_left]; rfl
theorem UnD.drop {h : H} {col : Nat → Nat} {a dd : Nat} {C : List (List Nat)} {us : List AV} (r : UnD h col a C us) : UnD h col (a + dd) C (us.drop dd) := fun j hj => by
  obtain ⟨dv, e, g⟩ := r (dd + j) (by omega)
  refine ⟨dv, by rw [List.getElem?_drop]; exact e, by rw [Nat.add_assoc]; exact g⟩
section
variable {h0 h h' : H} {col g : Nat → Nat} {B : Nat → Prop} {bf bg size wi cr ch : Nat} {u sv up dn : AV} {us ss pf qf : List AV} {a fl fr n : Nat} {C : List (List Nat)} {ps qs : List Nat}
theorem UnSt.ge (S : UnSt h0 h col bf bg size wi cr ch u sv up dn us ss pf qf a fl fr n C ps qs) {b : Nat} (hb : col b ≠ 0) : h0.next ≤ b := by
  rcases Nat.lt_or_ge b h0.next with g | g
  · exact absurd (S.old b g) hb
  · exact g
theorem UnSt.f1 (S : UnSt h0 h col bf bg size wi cr ch u sv up dn us ss pf qf a fl fr n C ps qs) (f : Fr B h h') (hB : ∀ b, B b → b < h.next → col b ≠ 0) : Fr (fun _ => False) h0 h' :=
  S.f0.then f fun c hc => by
    rcases Nat.lt_or_ge c h.next with g | g
    · exact .inr (S.ge (hB c hc g))
    · exact .inr (Nat.le_trans S.f0.next g)
theorem UnSt.o1 (S : UnSt h0 h col bf bg size wi cr ch u sv up dn us ss pf qf a fl fr n C ps qs) : ∀ b, b < h0.next → colN h col g b = 0 := fun b hb => by
  rw [colN_old b (Nat.lt_of_lt_of_le hb S.f0.next)]; exact S.old b hb
theorem ne_of_eq {k l : Nat} (hB : ∀ b, B b → b < h.next → col b = k) (hkl : k ≠ l) : ∀ b, B b → b < h.next → col b ≠ l := fun b hb hl e => hkl ((hB b hb hl).symm.trans e)
end
variable {X : Ext0} {S : Sums} {L : Nat} {h0 h : H} {F : Fm} {Bk : Ex → Fm → H → Prop}
variable {bf bg size wi cr ch bl ol N cl i : Nat} {exl : Bool} {kd wt : Nat → Int} {fu : Nat → Bool} {dv : Nat → AV} {dl : Nat → List Nat}
theorem kind3 {d : Nat} (_hi : i < N) (hk0 : ¬ kd i = Int.ofNat 0) (hk1 : ¬ kd i = Int.ofNat 1) (hk2 : ¬ kd i = Int.ofNat 2) (hk3 : kd i = Int.ofNat 3)
    (hL : LoopSt h0 bf bg size wi cr ch (.slice bl ol N cl 4 exl) i i F h) (f70 : F.at 70 = some (zI (kd i))) :
    Gives Tryz.prog X (callA Tryz.prog X S L d) L (Nat.max 2 Tryz.f4.ntmps) swC F h (LoopSt h0 bf bg size wi cr ch (.slice bl ol N cl 4 exl) i (i + 1)) Bk := by
  obtain ⟨f1, f5, f6, f12, col, u, sv, up, dn, us, ss, pf, qf, a, fl, fr, n, C, ps, qs, now, f7, f8, f9, f10, f11, hnow, hSt, hC, hP, hQ⟩ := hL
  refine Gives.block ?_
  refine Gives.seq ?_
  refine Gives.region [.p 0, .p 1] (by kernel_rfl) ?_
  refine RP.p rfl (op_bin (qT f70) (show ev _ _ = some (.int .i64 (.ofNat 0)) from rfl) (by first | exact bin_eql_f (by omega) | exact bin_eqlI_f (by first | with_reducible assumption | omega)) ?_)
  refine pA rfl qS ?_
  refine RP.nil ?_
  refine Gives.else_ (qT qS) ?_
  refine Gives.seq ?_
  refine Gives.region [.p 0, .p 1] (by kernel_rfl) ?_
  refine RP.p rfl (op_bin (qT (qN rfl (qN rfl f70))) (show ev _ _ = some (.int .i64 (.ofNat 1)) from rfl) (by first | exact bin_eql_f (by omega) | exact bin_eqlI_f (by first | with_reducible assumption | omega)) ?_)
  refine pA rfl qS ?_
  refine RP.nil ?_
  refine Gives.else_ (qT qS) ?_
  refine Gives.seq ?_
  refine Gives.region [.p 0, .p 1] (by kernel_rfl) ?_
  refine RP.p rfl (op_bin (qT (qN rfl (qN rfl (qN rfl (qN rfl f70))))) (show ev _ _ = some (.int .i64 (.ofNat 2)) from rfl) (by first | exact bin_eql_f (by omega) | exact bin_eqlI_f (by first | with_reducible assumption | omega)) ?_)
  refine pA rfl qS ?_
  refine RP.nil ?_
  refine Gives.else_ (qT qS) ?_
  refine Gives.seq ?_
  refine Gives.region [.p 0, .p 1] (by kernel_rfl) ?_
  refine RP.p rfl (op_bin (qT (qN rfl (qN rfl (qN rfl (qN rfl (qN rfl (qN rfl f70))))))) (show ev _ _ = some (.int .i64 (.ofNat 3)) from rfl) (by first | exact bin_eql_t (by omega) | exact bin_eqlI_t (by first | with_reducible assumption | omega)) ?_)
  refine pA rfl qS ?_
  refine RP.nil ?_
  refine Gives.then_ (qT qS) ?_
  skip
  cases ps with
  | nil =>
    have hR : RowK h 6 up 0 pf := hSt.pp.1
    refine Gives.seq ?_
    refine Gives.region [.p 0, .p 1, .p 2] (by kernel_rfl) ?_
    refine pM rfl (by repeat (first | with_reducible (first | exact qS | assumption) | refine qN rfl ?_ | exact qO rfl)) ?_
    refine RP.p rfl (op_len_row (qT qS) hR Tryz.underlying50 ?_)
    refine RP.p rfl (op_bin (qT qS) (show ev _ _ = some (.int .i64 (.ofNat 0)) from rfl) (by first | exact bin_gtr_f (by omega) | exact bin_gtrI_f (by first | with_reducible assumption | omega)) ?_)
    refine RP.nil ?_
    refine Gives.else_ (qT qS) ?_
    refine Gives.skip ?_
    exact ⟨(by repeat (first | with_reducible (first | exact qS | assumption) | refine qN rfl ?_ | exact qO rfl)), (by repeat (first | with_reducible (first | exact qS | assumption) | refine qN rfl ?_ | exact qO rfl)), (by repeat (first | with_reducible (first | exact qS | assumption) | refine qN rfl ?_ | exact qO rfl)), (by repeat (first | with_reducible (first | exact qS | assumption) | refine qN rfl ?_ | exact qO rfl)), col, u, sv, up, dn, us, ss, pf, qf, a, fl, fr, n, C, [], qs, now, (by repeat (first | with_reducible (first | exact qS | assumption) | refine qN rfl ?_ | exact qO rfl)), (by repeat (first | with_reducible (first | exact qS | assumption) | refine qN rfl ?_ | exact qO rfl)), (by repeat (first | with_reducible (first | exact qS | assumption) | refine qN rfl ?_ | exact qO rfl)), (by repeat (first | with_reducible (first | exact qS | assumption) | refine qN rfl ?_ | exact qO rfl)), (by repeat (first | with_reducible (first | exact qS | assumption) | refine qN rfl ?_ | exact qO rfl)), hnow, hSt, by omega, by simp, by omega⟩
  | cons x ps =>
    have hR : RowK h 6 up (ps.length + 1) pf := hSt.pp.1
    refine Gives.seq ?_
    refine Gives.region [.p 0, .p 1, .p 2] (by kernel_rfl) ?_
    refine pM rfl (by repeat (first | with_reducible (first | exact qS | assumption) | refine qN rfl ?_ | exact qO rfl)) ?_
    refine RP.p rfl (op_len_row (qT qS) hR Tryz.underlying50 ?_)
    refine RP.p rfl (op_bin (qT qS) (show ev _ _ = some (.int .i64 (.ofNat 0)) from rfl) (by first | exact bin_gtr_t (by omega) | exact bin_gtrI_t (by first | with_reducible assumption | omega)) ?_)
    refine RP.nil ?_
    refine Gives.then_ (qT qS) ?_
    refine Gives.region [.p 0, .p 1, .p 2] (by kernel_rfl) ?_
    refine pM rfl (by repeat (first | with_reducible (first | exact qS | assumption) | refine qN rfl ?_ | exact qO rfl)) ?_
    refine RP.p rfl (op_slice_row (j := 1) (qT (by repeat (first | with_reducible (first | exact qS | assumption) | refine qN rfl ?_ | exact qO rfl))) hR rfl Tryz.underlying50 (by kernel_rfl) (by omega) (fun up' hR' hsub hone => ?_))
    refine pA rfl qS ?_
    refine RP.nil ?_
    exact ⟨(by repeat (first | with_reducible (first | exact qS | assumption) | refine qN rfl ?_ | exact qO rfl)), (by repeat (first | with_reducible (first | exact qS | assumption) | refine qN rfl ?_ | exact qO rfl)), (by repeat (first | with_reducible (first | exact qS | assumption) | refine qN rfl ?_ | exact qO rfl)), (by repeat (first | with_reducible (first | exact qS | assumption) | refine qN rfl ?_ | exact qO rfl)), col, u, sv, up', dn, us, ss, _, qf, a, fl, fr, n, C, ps, qs, now, (by repeat (first | with_reducible (first | exact qS | assumption) | refine qN rfl ?_ | exact qO rfl)), (by repeat (first | with_reducible (first | exact qS | assumption) | refine qN rfl ?_ | exact qO rfl)), (by repeat (first | with_reducible (first | exact qS | assumption) | refine qN rfl ?_ | exact qO rfl)), (by repeat (first | with_reducible (first | exact qS | assumption) | refine qN rfl ?_ | exact qO rfl)), (by repeat (first | with_reducible (first | exact qS | assumption) | refine qN rfl ?_ | exact qO rfl)), hnow, ⟨hSt.w, hSt.f0, hSt.old, hSt.qf_, hSt.qg_, hSt.pu, hSt.pud, hSt.rs, hSt.rsd, ⟨by rw [Nat.add_sub_cancel] at hR'; exact hR', fun b hb => hSt.pp.2 b (hsub b hb)⟩, hSt.ppd.tail, hSt.pq, hSt.pqd, hSt.inv.lost⟩, by omega, by simp at hP; omega, by omega⟩
theorem kind6 {d : Nat} (_hi : i < N) (hk0 : ¬ kd i = Int.ofNat 0) (hk1 : ¬ kd i = Int.ofNat 1) (hk2 : ¬ kd i = Int.ofNat 2) (hk3 : ¬ kd i = Int.ofNat 3) (hk4 : ¬ kd i = Int.ofNat 4) (hk5 : ¬ kd i = Int.ofNat 5) (hk6 : kd i = Int.ofNat 6)
    (hL : LoopSt h0 bf bg size wi cr ch (.slice bl ol N cl 4 exl) i i F h) (f70 : F.at 70 = some (zI (kd i))) :
    Gives Tryz.prog X (callA Tryz.prog X S L d) L (Nat.max 2 Tryz.f4.ntmps) swC F h (LoopSt h0 bf bg size wi cr ch (.slice bl ol N cl 4 exl) i (i + 1)) Bk := by
  obtain ⟨f1, f5, f6, f12, col, u, sv, up, dn, us, ss, pf, qf, a, fl, fr, n, C, ps, qs, now, f7, f8, f9, f10, f11, hnow, hSt, hC, hP, hQ⟩ := hL
  refine Gives.block ?_
  refine Gives.seq ?_
  refine Gives.region [.p 0, .p 1] (by kernel_rfl) ?_
  refine RP.p rfl (op_bin (qT f70) (show ev _ _ = some (.int .i64 (.ofNat 0)) from rfl) (by first | exact bin_eql_f (by omega) | exact bin_eqlI_f (by first | with_reducible assumption | omega)) ?_)
  refine pA rfl qS ?_
  refine RP.nil ?_
  refine Gives.else_ (qT qS) ?_
  refine Gives.seq ?_
  refine Gives.region [.p 0, .p 1] (by kernel_rfl) ?_
  refine RP.p rfl (op_bin (qT (qN rfl (qN rfl f70))) (show ev _ _ = some (.int .i64 (.ofNat 1)) from rfl) (by first | exact bin_eql_f (by omega) | exact bin_eqlI_f (by first | with_reducible assumption | omega)) ?_)
  refine pA rfl qS ?_
  refine RP.nil ?_
  refine Gives.else_ (qT qS) ?_
  refine Gives.seq ?_
  refine Gives.region [.p 0, .p 1] (by kernel_rfl) ?_
  refine RP.p rfl (op_bin (qT (qN rfl (qN rfl (qN rfl (qN rfl f70))))) (show ev _ _ = some (.int .i64 (.ofNat 2)) from rfl) (by first | exact bin_eql_f (by omega) | exact bin_eqlI_f (by first | with_reducible assumption | omega)) ?_)
  refine pA rfl qS ?_
  refine RP.nil ?_
  refine Gives.else_ (qT qS) ?_
  refine Gives.seq ?_
  refine Gives.region [.p 0, .p 1] (by kernel_rfl) ?_
  refine RP.p rfl (op_bin (qT (qN rfl (qN rfl (qN rfl (qN rfl (qN rfl (qN rfl f70))))))) (show ev _ _ = some (.int .i64 (.ofNat 3)) from rfl) (by first | exact bin_eql_f (by omega) | exact bin_eqlI_f (by first | with_reducible assumption | omega)) ?_)
  refine pA rfl qS ?_
  refine RP.nil ?_
  refine Gives.else_ (qT qS) ?_
  refine Gives.seq ?_
  refine Gives.region [.p 0, .p 1] (by kernel_rfl) ?_
  refine RP.p rfl (op_bin (qT (qN rfl (qN rfl (qN rfl (qN rfl (qN rfl (qN rfl (qN rfl (qN rfl f70))))))))) (show ev _ _ = some (.int .i64 (.ofNat 4)) from rfl) (by first | exact bin_eql_f (by omega) | exact bin_eqlI_f (by first | with_reducible assumption | omega)) ?_)
  refine pA rfl qS ?_
  refine RP.nil ?_
  refine Gives.else_ (qT qS) ?_
  refine Gives.seq ?_
  refine Gives.region [.p 0, .p 1] (by kernel_rfl) ?_
  refine RP.p rfl (op_bin (qT (by repeat (first | with_reducible (first | exact qS | assumption) | refine qN rfl ?_ | exact qO rfl))) (show ev _ _ = some (.int .i64 (.ofNat 5)) from rfl) (by first | exact bin_eql_f (by omega) | exact bin_eqlI_f (by first | with_reducible assumption | omega)) ?_)
  refine pA rfl qS ?_
  refine RP.nil ?_
  refine Gives.else_ (qT qS) ?_
  refine Gives.seq ?_
  refine Gives.region [.p 0, .p 1] (by kernel_rfl) ?_
  refine RP.p rfl (op_bin (qT (by repeat (first | with_reducible (first | exact qS | assumption) | refine qN rfl ?_ | exact qO rfl))) (show ev _ _ = some (.int .i64 (.ofNat 6)) from rfl) (by first | exact bin_eql_t (by omega) | exact bin_eqlI_t (by first | with_reducible assumption | omega)) ?_)
  refine pA rfl qS ?_
  refine RP.nil ?_
  refine Gives.then_ (qT qS) ?_
  skip
  cases qs with
  | nil =>
    have hR : RowK h 6 dn 0 qf := hSt.pq.1
    refine Gives.seq ?_
    refine Gives.region [.p 0, .p 1, .p 2] (by kernel_rfl) ?_
    refine pM rfl (by repeat (first | with_reducible (first | exact qS | assumption) | refine qN rfl ?_ | exact qO rfl)) ?_
    refine RP.p rfl (op_len_row (qT qS) hR Tryz.underlying51 ?_)
    refine RP.p rfl (op_bin (qT qS) (show ev _ _ = some (.int .i64 (.ofNat 0)) from rfl) (by first | exact bin_gtr_f (by omega) | exact bin_gtrI_f (by first | with_reducible assumption | omega)) ?_)
    refine RP.nil ?_
    refine Gives.else_ (qT qS) ?_
    refine Gives.skip ?_
    exact ⟨(by repeat (first | with_reducible (first | exact qS | assumption) | refine qN rfl ?_ | exact qO rfl)), (by repeat (first | with_reducible (first | exact qS | assumption) | refine qN rfl ?_ | exact qO rfl)), (by repeat (first | with_reducible (first | exact qS | assumption) | refine qN rfl ?_ | exact qO rfl)), (by repeat (first | with_reducible (first | exact qS | assumption) | refine qN rfl ?_ | exact qO rfl)), col, u, sv, up, dn, us, ss, pf, qf, a, fl, fr, n, C, ps, [], now, (by repeat (first | with_reducible (first | exact qS | assumption) | refine qN rfl ?_ | exact qO rfl)), (by repeat (first | with_reducible (first | exact qS | assumption) | refine qN rfl ?_ | exact qO rfl)), (by repeat (first | with_reducible (first | exact qS | assumption) | refine qN rfl ?_ | exact qO rfl)), (by repeat (first | with_reducible (first | exact qS | assumption) | refine qN rfl ?_ | exact qO rfl)), (by repeat (first | with_reducible (first | exact qS | assumption) | refine qN rfl ?_ | exact qO rfl)), hnow, hSt, by omega, by omega, by simp⟩
  | cons x qs =>
    have hR : RowK h 6 dn (qs.length + 1) qf := hSt.pq.1
    refine Gives.seq ?_
    refine Gives.region [.p 0, .p 1, .p 2] (by kernel_rfl) ?_
    refine pM rfl (by repeat (first | with_reducible (first | exact qS | assumption) | refine qN rfl ?_ | exact qO rfl)) ?_
    refine RP.p rfl (op_len_row (qT qS) hR Tryz.underlying51 ?_)
    refine RP.p rfl (op_bin (qT qS) (show ev _ _ = some (.int .i64 (.ofNat 0)) from rfl) (by first | exact bin_gtr_t (by omega) | exact bin_gtrI_t (by first | with_reducible assumption | omega)) ?_)
    refine RP.nil ?_
    refine Gives.then_ (qT qS) ?_
    refine Gives.region [.p 0, .p 1, .p 2] (by kernel_rfl) ?_
    refine pM rfl (by repeat (first | with_reducible (first | exact qS | assumption) | refine qN rfl ?_ | exact qO rfl)) ?_
    refine RP.p rfl (op_slice_row (j := 1) (qT (by repeat (first | with_reducible (first | exact qS | assumption) | refine qN rfl ?_ | exact qO rfl))) hR rfl Tryz.underlying51 (by kernel_rfl) (by omega) (fun dn' hR' hsub hone => ?_))
    refine pA rfl qS ?_
    refine RP.nil ?_
    exact ⟨(by repeat (first | with_reducible (first | exact qS | assumption) | refine qN rfl ?_ | exact qO rfl)), (by repeat (first | with_reducible (first | exact qS | assumption) | refine qN rfl ?_ | exact qO rfl)), (by repeat (first | with_reducible (first | exact qS | assumption) | refine qN rfl ?_ | exact qO rfl)), (by repeat (first | with_reducible (first | exact qS | assumption) | refine qN rfl ?_ | exact qO rfl)), col, u, sv, up, dn', us, ss, _, _, a, fl, fr, n, C, ps, qs, now, (by repeat (first | with_reducible (first | exact qS | assumption) | refine qN rfl ?_ | exact qO rfl)), (by repeat (first | with_reducible (first | exact qS | assumption) | refine qN rfl ?_ | exact qO rfl)), (by repeat (first | with_reducible (first | exact qS | assumption) | refine qN rfl ?_ | exact qO rfl)), (by repeat (first | with_reducible (first | exact qS | assumption) | refine qN rfl ?_ | exact qO rfl)), (by repeat (first | with_reducible (first | exact qS | assumption) | refine qN rfl ?_ | exact qO rfl)), hnow, ⟨hSt.w, hSt.f0, hSt.old, hSt.qf_, hSt.qg_, hSt.pu, hSt.pud, hSt.rs, hSt.rsd, hSt.pp, hSt.ppd, ⟨by rw [Nat.add_sub_cancel] at hR'; exact hR', fun b hb => hSt.pq.2 b (hsub b hb)⟩, hSt.pqd.tail, hSt.inv.lostq⟩, by omega, by omega, by simp at hQ; omega⟩
theorem kind7 {d : Nat} (hi : i < N) (hcl : N ≤ cl) (hw0 : WF h0) (hM : Mvs h0 bl ol N kd wt fu dv dl) (hk0 : ¬ kd i = Int.ofNat 0) (hk1 : ¬ kd i = Int.ofNat 1) (hk2 : ¬ kd i = Int.ofNat 2) (hk3 : ¬ kd i = Int.ofNat 3) (hk4 : ¬ kd i = Int.ofNat 4) (hk5 : ¬ kd i = Int.ofNat 5) (hk6 : ¬ kd i = Int.ofNat 6)
    (hL : LoopSt h0 bf bg size wi cr ch (.slice bl ol N cl 4 exl) i i F h) (f70 : F.at 70 = some (zI (kd i))) :
    Gives Tryz.prog X (callA Tryz.prog X S L d) L (Nat.max 2 Tryz.f4.ntmps) swC F h (LoopSt h0 bf bg size wi cr ch (.slice bl ol N cl 4 exl) i (i + 1)) Bk := by
  obtain ⟨f1, f5, f6, f12, col, u, sv, up, dn, us, ss, pf, qf, a, fl, fr, n, C, ps, qs, now, f7, f8, f9, f10, f11, hnow, hSt, hC, hP, hQ⟩ := hL
  have hW := (hM.fr hw0 hSt.f0).w i hi
  refine Gives.block ?_
  refine Gives.seq ?_
  refine Gives.region [.p 0, .p 1] (by kernel_rfl) ?_
  refine RP.p rfl (op_bin (qT f70) (show ev _ _ = some (.int .i64 (.ofNat 0)) from rfl) (by first | exact bin_eql_f (by omega) | exact bin_eqlI_f (by first | with_reducible assumption | omega)) ?_)
  refine pA rfl qS ?_
  refine RP.nil ?_
  refine Gives.else_ (qT qS) ?_
  refine Gives.seq ?_
  refine Gives.region [.p 0, .p 1] (by kernel_rfl) ?_
  refine RP.p rfl (op_bin (qT (qN rfl (qN rfl f70))) (show ev _ _ = some (.int .i64 (.ofNat 1)) from rfl) (by first | exact bin_eql_f (by omega) | exact bin_eqlI_f (by first | with_reducible assumption | omega)) ?_)
  refine pA rfl qS ?_
  refine RP.nil ?_
  refine Gives.else_ (qT qS) ?_
  refine Gives.seq ?_
  refine Gives.region [.p 0, .p 1] (by kernel_rfl) ?_
  refine RP.p rfl (op_bin (qT (qN rfl (qN rfl (qN rfl (qN rfl f70))))) (show ev _ _ = some (.int .i64 (.ofNat 2)) from rfl) (by first | exact bin_eql_f (by omega) | exact bin_eqlI_f (by first | with_reducible assumption | omega)) ?_)
  refine pA rfl qS ?_
  refine RP.nil ?_
  refine Gives.else_ (qT qS) ?_
  refine Gives.seq ?_
  refine Gives.region [.p 0, .p 1] (by kernel_rfl) ?_
  refine RP.p rfl (op_bin (qT (qN rfl (qN rfl (qN rfl (qN rfl (qN rfl (qN rfl f70))))))) (show ev _ _ = some (.int .i64 (.ofNat 3)) from rfl) (by first | exact bin_eql_f (by omega) | exact bin_eqlI_f (by first | with_reducible assumption | omega)) ?_)
  refine pA rfl qS ?_
  refine RP.nil ?_
  refine Gives.else_ (qT qS) ?_
  refine Gives.seq ?_
  refine Gives.region [.p 0, .p 1] (by kernel_rfl) ?_
  refine RP.p rfl (op_bin (qT (qN rfl (qN rfl (qN rfl (qN rfl (qN rfl (qN rfl (qN rfl (qN rfl f70))))))))) (show ev _ _ = some (.int .i64 (.ofNat 4)) from rfl) (by first | exact bin_eql_f (by omega) | exact bin_eqlI_f (by first | with_reducible assumption | omega)) ?_)
  refine pA rfl qS ?_
  refine RP.nil ?_
  refine Gives.else_ (qT qS) ?_
  refine Gives.seq ?_
  refine Gives.region [.p 0, .p 1] (by kernel_rfl) ?_
  refine RP.p rfl (op_bin (qT (by repeat (first | with_reducible (first | exact qS | assumption) | refine qN rfl ?_ | exact qO rfl))) (show ev _ _ = some (.int .i64 (.ofNat 5)) from rfl) (by first | exact bin_eql_f (by omega) | exact bin_eqlI_f (by first | with_reducible assumption | omega)) ?_)
  refine pA rfl qS ?_
  refine RP.nil ?_
  refine Gives.else_ (qT qS) ?_
  refine Gives.seq ?_
  refine Gives.region [.p 0, .p 1] (by kernel_rfl) ?_
  refine RP.p rfl (op_bin (qT (by repeat (first | with_reducible (first | exact qS | assumption) | refine qN rfl ?_ | exact qO rfl))) (show ev _ _ = some (.int .i64 (.ofNat 6)) from rfl) (by first | exact bin_eql_f (by omega) | exact bin_eqlI_f (by first | with_reducible assumption | omega)) ?_)
  refine pA rfl qS ?_
  refine RP.nil ?_
  refine Gives.else_ (qT qS) ?_
  skip
  by_cases hp : Int.ofNat 0 < wt i
  · obtain ⟨w, hwe⟩ : ∃ w : Nat, wt i = Int.ofNat w := ⟨(wt i).toNat, by have e : ∀ n : Nat, Int.ofNat n = (n : Int) := fun _ => rfl; rw [e] at hp ⊢; omega⟩
    rw [hwe] at hW hp
    by_cases hq : w ≤ 1099511627776 - now
    · have hp' : 0 < w := by have e : ∀ n : Nat, Int.ofNat n = (n : Int) := fun _ => rfl; rw [e, e] at hp; omega
      refine Gives.seq ?_
      refine Gives.region [.p 0, .p 1, .p 2, .p 3, .r 4, .p 5, .p 6, .p 7, .p 8, .p 9, .p 10, .r 11, .p 12, .p 13, .p 14, .p 15] (by kernel_rfl) ?_
      refine pM rfl (by repeat (first | with_reducible (first | exact qS | assumption) | refine qN rfl ?_ | exact qO rfl)) ?_
      refine pM rfl (by repeat (first | with_reducible (first | exact qS | assumption) | refine qN rfl ?_ | exact qO rfl)) ?_
      refine RP.p rfl (op_indexAddr (qT (by repeat (first | with_reducible (first | exact qS | assumption) | refine qN rfl ?_ | exact qO rfl))) (qT (by repeat (first | with_reducible (first | exact qS | assumption) | refine qN rfl ?_ | exact qO rfl))) Tryz.underlying44 (by kernel_rfl) hi hcl ?_)
      refine pF (off := 3) rfl qS (by kernel_rfl) ?_
      refine RP.r rfl (op_load (qT (by repeat (first | with_reducible (first | exact qS | assumption) | refine qN rfl ?_ | exact qO rfl))) hW ?_)
      refine RP.p rfl (op_bin (qT qS) (show ev _ _ = some (.int .i64 (.ofNat 0)) from rfl) (by first | exact bin_gtr_t (by omega) | exact bin_gtrI_t (by first | with_reducible assumption | omega)) ?_)
      refine pM rfl qS ?_
      refine RP.p rfl (OpP.on' rfl rfl qS (op_move (qT (by repeat (first | with_reducible (first | exact qS | assumption) | refine qN rfl ?_ | exact qO rfl))) ?_))
      refine RP.p rfl (OpP.on' rfl rfl (qN rfl qS) (op_move (qT (by repeat (first | with_reducible (first | exact qS | assumption) | refine qN rfl ?_ | exact qO rfl))) ?_))
      refine RP.p rfl (OpP.on' rfl rfl (by repeat (first | with_reducible (first | exact qS | assumption) | refine qN rfl ?_ | exact qO rfl)) (op_indexAddr (qT (by repeat (first | with_reducible (first | exact qS | assumption) | refine qN rfl ?_ | exact qO rfl))) (qT (by repeat (first | with_reducible (first | exact qS | assumption) | refine qN rfl ?_ | exact qO rfl))) Tryz.underlying44 (by kernel_rfl) hi hcl ?_))
      refine RP.p rfl (OpP.on' rfl rfl (qN rfl (qN rfl (qN rfl qS))) (op_fieldAddr (off := 3) (qT qS) (by kernel_rfl) ?_))
      refine RP.r rfl (OpR.on' rfl rfl (by repeat (first | with_reducible (first | exact qS | assumption) | refine qN rfl ?_ | exact qO rfl)) (op_load (qT (by repeat (first | with_reducible (first | exact qS | assumption) | refine qN rfl ?_ | exact qO rfl))) hW ?_))
      refine RP.p rfl (OpP.on' rfl rfl (qN rfl (qN rfl (qN rfl (qN rfl (qN rfl qS))))) (op_move (qT (by repeat (first | with_reducible (first | exact qS | assumption) | refine qN rfl ?_ | exact qO rfl))) ?_))
      refine RP.p rfl (OpP.on' rfl rfl (qN rfl (qN rfl (qN rfl (qN rfl (qN rfl (qN rfl qS)))))) (op_bin (show ev _ _ = some (.int .i64 (.ofNat 1099511627776)) from rfl) (qT qS) (by first | exact bin_sub (by omega) (by have e1 : topK .i64 = 9223372036854775808 := rfl; have e2 : topK .u32 = 4294967296 := rfl; have e3 : topK .u64 = 18446744073709551616 := rfl; have e4 : topK .u8 = 256 := rfl; have e5 : topK .u16 = 65536 := rfl; omega) | exact bin_subI) ?_))
      refine RP.p rfl (OpP.on' rfl rfl (qN rfl (qN rfl (qN rfl (qN rfl (qN rfl (qN rfl (qN rfl qS))))))) (op_bin (qT (qN rfl (qN rfl qS))) (qT qS) (by first | exact bin_leq_t (by omega) | exact bin_leqI_t (by first | with_reducible assumption | omega)) ?_))
      refine RP.p rfl (op_pick_t (qT (qN rfl (qN rfl (qN rfl (qN rfl (qN rfl (qN rfl (qN rfl (qN rfl qS))))))))) (qT qS) ?_)
      refine RP.nil ?_
      refine Gives.then_ (qT qS) ?_
      refine Gives.region [.p 0, .p 1, .p 2, .p 3, .p 4, .r 5, .p 6, .p 7] (by kernel_rfl) ?_
      refine pM rfl (by repeat (first | with_reducible (first | exact qS | assumption) | refine qN rfl ?_ | exact qO rfl)) ?_
      refine pM rfl (by repeat (first | with_reducible (first | exact qS | assumption) | refine qN rfl ?_ | exact qO rfl)) ?_
      refine pM rfl (by repeat (first | with_reducible (first | exact qS | assumption) | refine qN rfl ?_ | exact qO rfl)) ?_
      refine RP.p rfl (op_indexAddr (qT (by repeat (first | with_reducible (first | exact qS | assumption) | refine qN rfl ?_ | exact qO rfl))) (qT (by repeat (first | with_reducible (first | exact qS | assumption) | refine qN rfl ?_ | exact qO rfl))) Tryz.underlying44 (by kernel_rfl) hi hcl ?_)
      refine pF (off := 3) rfl qS (by kernel_rfl) ?_
      refine RP.r rfl (op_load (qT (by repeat (first | with_reducible (first | exact qS | assumption) | refine qN rfl ?_ | exact qO rfl))) hW ?_)
      refine RP.p rfl (op_bin (qT (qN rfl (qN rfl (qN rfl (qN rfl (qN rfl qS)))))) (qT qS) (by first | exact bin_add (by have e1 : topK .i64 = 9223372036854775808 := rfl; have e2 : topK .u32 = 4294967296 := rfl; have e3 : topK .u64 = 18446744073709551616 := rfl; have e4 : topK .u8 = 256 := rfl; have e5 : topK .u16 = 65536 := rfl; omega) | exact bin_addI) ?_)
      refine pA rfl qS ?_
      refine RP.nil ?_
      exact ⟨(by repeat (first | with_reducible (first | exact qS | assumption) | refine qN rfl ?_ | exact qO rfl)), (by repeat (first | with_reducible (first | exact qS | assumption) | refine qN rfl ?_ | exact qO rfl)), (by repeat (first | with_reducible (first | exact qS | assumption) | refine qN rfl ?_ | exact qO rfl)), (by repeat (first | with_reducible (first | exact qS | assumption) | refine qN rfl ?_ | exact qO rfl)), col, u, sv, up, dn, us, ss, pf, qf, a, fl, fr, n, C, ps, qs, now + w, (by repeat (first | with_reducible (first | exact qS | assumption) | refine qN rfl ?_ | exact qO rfl)), (by repeat (first | with_reducible (first | exact qS | assumption) | refine qN rfl ?_ | exact qO rfl)), (by repeat (first | with_reducible (first | exact qS | assumption) | refine qN rfl ?_ | exact qO rfl)), (by repeat (first | with_reducible (first | exact qS | assumption) | refine qN rfl ?_ | exact qO rfl)), (by repeat (first | with_reducible (first | exact qS | assumption) | refine qN rfl ?_ | exact qO rfl)), by omega, hSt, by omega, by omega, by omega⟩
    ·
      refine Gives.seq ?_
      refine Gives.region [.p 0, .p 1, .p 2, .p 3, .r 4, .p 5, .p 6, .p 7, .p 8, .p 9, .p 10, .r 11, .p 12, .p 13, .p 14, .p 15] (by kernel_rfl) ?_
      refine pM rfl (by repeat (first | with_reducible (first | exact qS | assumption) | refine qN rfl ?_ | exact qO rfl)) ?_
      refine pM rfl (by repeat (first | with_reducible (first | exact qS | assumption) | refine qN rfl ?_ | exact qO rfl)) ?_
      refine RP.p rfl (op_indexAddr (qT (by repeat (first | with_reducible (first | exact qS | assumption) | refine qN rfl ?_ | exact qO rfl))) (qT (by repeat (first | with_reducible (first | exact qS | assumption) | refine qN rfl ?_ | exact qO rfl))) Tryz.underlying44 (by kernel_rfl) hi hcl ?_)
      refine pF (off := 3) rfl qS (by kernel_rfl) ?_
      refine RP.r rfl (op_load (qT (by repeat (first | with_reducible (first | exact qS | assumption) | refine qN rfl ?_ | exact qO rfl))) hW ?_)
      refine RP.p rfl (op_bin (qT qS) (show ev _ _ = some (.int .i64 (.ofNat 0)) from rfl) (by first | exact bin_gtr_t (by omega) | exact bin_gtrI_t (by first | with_reducible assumption | omega)) ?_)
      refine pM rfl qS ?_
      refine RP.p rfl (OpP.on' rfl rfl qS (op_move (qT (by repeat (first | with_reducible (first | exact qS | assumption) | refine qN rfl ?_ | exact qO rfl))) ?_))
      refine RP.p rfl (OpP.on' rfl rfl (qN rfl qS) (op_move (qT (by repeat (first | with_reducible (first | exact qS | assumption) | refine qN rfl ?_ | exact qO rfl))) ?_))
      refine RP.p rfl (OpP.on' rfl rfl (by repeat (first | with_reducible (first | exact qS | assumption) | refine qN rfl ?_ | exact qO rfl)) (op_indexAddr (qT (by repeat (first | with_reducible (first | exact qS | assumption) | refine qN rfl ?_ | exact qO rfl))) (qT (by repeat (first | with_reducible (first | exact qS | assumption) | refine qN rfl ?_ | exact qO rfl))) Tryz.underlying44 (by kernel_rfl) hi hcl ?_))
      refine RP.p rfl (OpP.on' rfl rfl (qN rfl (qN rfl (qN rfl qS))) (op_fieldAddr (off := 3) (qT qS) (by kernel_rfl) ?_))
      refine RP.r rfl (OpR.on' rfl rfl (by repeat (first | with_reducible (first | exact qS | assumption) | refine qN rfl ?_ | exact qO rfl)) (op_load (qT (by repeat (first | with_reducible (first | exact qS | assumption) | refine qN rfl ?_ | exact qO rfl))) hW ?_))
      refine RP.p rfl (OpP.on' rfl rfl (qN rfl (qN rfl (qN rfl (qN rfl (qN rfl qS))))) (op_move (qT (by repeat (first | with_reducible (first | exact qS | assumption) | refine qN rfl ?_ | exact qO rfl))) ?_))
      refine RP.p rfl (OpP.on' rfl rfl (qN rfl (qN rfl (qN rfl (qN rfl (qN rfl (qN rfl qS)))))) (op_bin (show ev _ _ = some (.int .i64 (.ofNat 1099511627776)) from rfl) (qT qS) (by first | exact bin_sub (by omega) (by have e1 : topK .i64 = 9223372036854775808 := rfl; have e2 : topK .u32 = 4294967296 := rfl; have e3 : topK .u64 = 18446744073709551616 := rfl; have e4 : topK .u8 = 256 := rfl; have e5 : topK .u16 = 65536 := rfl; omega) | exact bin_subI) ?_))
      refine RP.p rfl (OpP.on' rfl rfl (qN rfl (qN rfl (qN rfl (qN rfl (qN rfl (qN rfl (qN rfl qS))))))) (op_bin (qT (qN rfl (qN rfl qS))) (qT qS) (by first | exact bin_leq_f (by omega) | exact bin_leqI_f (by first | with_reducible assumption | omega)) ?_))
      refine RP.p rfl (op_pick_t (qT (qN rfl (qN rfl (qN rfl (qN rfl (qN rfl (qN rfl (qN rfl (qN rfl qS))))))))) (qT qS) ?_)
      refine RP.nil ?_
      refine Gives.else_ (qT qS) ?_
      refine Gives.skip ?_
      exact ⟨(by repeat (first | with_reducible (first | exact qS | assumption) | refine qN rfl ?_ | exact qO rfl)), (by repeat (first | with_reducible (first | exact qS | assumption) | refine qN rfl ?_ | exact qO rfl)), (by repeat (first | with_reducible (first | exact qS | assumption) | refine qN rfl ?_ | exact qO rfl)), (by repeat (first | with_reducible (first | exact qS | assumption) | refine qN rfl ?_ | exact qO rfl)), col, u, sv, up, dn, us, ss, pf, qf, a, fl, fr, n, C, ps, qs, now, (by repeat (first | with_reducible (first | exact qS | assumption) | refine qN rfl ?_ | exact qO rfl)), (by repeat (first | with_reducible (first | exact qS | assumption) | refine qN rfl ?_ | exact qO rfl)), (by repeat (first | with_reducible (first | exact qS | assumption) | refine qN rfl ?_ | exact qO rfl)), (by repeat (first | with_reducible (first | exact qS | assumption) | refine qN rfl ?_ | exact qO rfl)), (by repeat (first | with_reducible (first | exact qS | assumption) | refine qN rfl ?_ | exact qO rfl)), hnow, hSt, by omega, by omega, by omega⟩
  ·
    refine Gives.seq ?_
    refine Gives.region [.p 0, .p 1, .p 2, .p 3, .r 4, .p 5, .p 6, .p 7, .p 8, .p 9, .p 10, .r 11, .p 12, .p 13, .p 14, .p 15] (by kernel_rfl) ?_
    refine pM rfl (by repeat (first | with_reducible (first | exact qS | assumption) | refine qN rfl ?_ | exact qO rfl)) ?_
    refine pM rfl (by repeat (first | with_reducible (first | exact qS | assumption) | refine qN rfl ?_ | exact qO rfl)) ?_
    refine RP.p rfl (op_indexAddr (qT (by repeat (first | with_reducible (first | exact qS | assumption) | refine qN rfl ?_ | exact qO rfl))) (qT (by repeat (first | with_reducible (first | exact qS | assumption) | refine qN rfl ?_ | exact qO rfl))) Tryz.underlying44 (by kernel_rfl) hi hcl ?_)
    refine pF (off := 3) rfl qS (by kernel_rfl) ?_
    refine RP.r rfl (op_load (qT (by repeat (first | with_reducible (first | exact qS | assumption) | refine qN rfl ?_ | exact qO rfl))) hW ?_)
    refine RP.p rfl (op_bin (qT qS) (show ev _ _ = some (.int .i64 (.ofNat 0)) from rfl) (by first | exact bin_gtr_f (by omega) | exact bin_gtrI_f (by first | with_reducible assumption | omega)) ?_)
    refine pM rfl qS ?_
    refine RP.p rfl (OpP.offF rfl rfl qS ?_)
    refine RP.p rfl (OpP.offF rfl rfl (qN rfl qS) ?_)
    refine RP.p rfl (OpP.offF rfl rfl (qN rfl (qN rfl qS)) ?_)
    refine RP.p rfl (OpP.offF rfl rfl (qN rfl (qN rfl (qN rfl qS))) ?_)
    refine RP.r rfl (OpR.offF rfl rfl (qN rfl (qN rfl (qN rfl (qN rfl qS)))) ?_)
    refine RP.p rfl (OpP.offF rfl rfl (qN rfl (qN rfl (qN rfl (qN rfl (qN rfl qS))))) ?_)
    refine RP.p rfl (OpP.offF rfl rfl (qN rfl (qN rfl (qN rfl (qN rfl (qN rfl (qN rfl qS)))))) ?_)
    refine RP.p rfl (OpP.offF rfl rfl (qN rfl (qN rfl (qN rfl (qN rfl (qN rfl (qN rfl (qN rfl qS))))))) ?_)
    refine RP.p rfl (op_pick_f (qT (qN rfl (qN rfl (qN rfl (qN rfl (qN rfl (qN rfl (qN rfl (qN rfl qS))))))))) rfl ?_)
    refine RP.nil ?_
    refine Gives.else_ (qT qS) ?_
    refine Gives.skip ?_
    exact ⟨(by repeat (first | with_reducible (first | exact qS | assumption) | refine qN rfl ?_ | exact qO rfl)), (by repeat (first | with_reducible (first | exact qS | assumption) | refine qN rfl ?_ | exact qO rfl)), (by repeat (first | with_reducible (first | exact qS | assumption) | refine qN rfl ?_ | exact qO rfl)), (by repeat (first | with_reducible (first | exact qS | assumption) | refine qN rfl ?_ | exact qO rfl)), col, u, sv, up, dn, us, ss, pf, qf, a, fl, fr, n, C, ps, qs, now, (by repeat (first | with_reducible (first | exact qS | assumption) | refine qN rfl ?_ | exact qO rfl)), (by repeat (first | with_reducible (first | exact qS | assumption) | refine qN rfl ?_ | exact qO rfl)), (by repeat (first | with_reducible (first | exact qS | assumption) | refine qN rfl ?_ | exact qO rfl)), (by repeat (first | with_reducible (first | exact qS | assumption) | refine qN rfl ?_ | exact qO rfl)), (by repeat (first | with_reducible (first | exact qS | assumption) | refine qN rfl ?_ | exact qO rfl)), hnow, hSt, by omega, by omega, by omega⟩
theorem kind4 {d : Nat} (hS : SOk S) (hi : i < N) (hN : N ≤ 1048576) (hwi : 1 ≤ wi) (hk0 : ¬ kd i = Int.ofNat 0) (hk1 : ¬ kd i = Int.ofNat 1) (hk2 : ¬ kd i = Int.ofNat 2) (hk3 : ¬ kd i = Int.ofNat 3) (hk4 : kd i = Int.ofNat 4)
    (hL : LoopSt h0 bf bg size wi cr ch (.slice bl ol N cl 4 exl) i i F h) (f70 : F.at 70 = some (zI (kd i))) :
    Gives Tryz.prog X (callA Tryz.prog X S L (d + 2)) L (Nat.max 2 Tryz.f4.ntmps) swC F h (LoopSt h0 bf bg size wi cr ch (.slice bl ol N cl 4 exl) i (i + 1)) Bk := by
  obtain ⟨f1, f5, f6, f12, col, u, sv, up, dn, us, ss, pf, qf, a, fl, fr, n, C, ps, qs, now, f7, f8, f9, f10, f11, hnow, hSt, hC, hP, hQ⟩ := hL
  obtain ⟨⟨lo, wa, re, hG⟩, _⟩ := hSt.qg_
  obtain ⟨i62, hi62, hs62, hb62⟩ := info62
  have hw := hSt.w
  refine Gives.block ?_
  refine Gives.seq ?_
  refine Gives.region [.p 0, .p 1] (by kernel_rfl) ?_
  refine RP.p rfl (op_bin (qT f70) (show ev _ _ = some (.int .i64 (.ofNat 0)) from rfl) (by first | exact bin_eql_f (by omega) | exact bin_eqlI_f (by first | with_reducible assumption | omega)) ?_)
  refine pA rfl qS ?_
  refine RP.nil ?_
  refine Gives.else_ (qT qS) ?_
  refine Gives.seq ?_
  refine Gives.region [.p 0, .p 1] (by kernel_rfl) ?_
  refine RP.p rfl (op_bin (qT (qN rfl (qN rfl f70))) (show ev _ _ = some (.int .i64 (.ofNat 1)) from rfl) (by first | exact bin_eql_f (by omega) | exact bin_eqlI_f (by first | with_reducible assumption | omega)) ?_)
  refine pA rfl qS ?_
  refine RP.nil ?_
  refine Gives.else_ (qT qS) ?_
  refine Gives.seq ?_
  refine Gives.region [.p 0, .p 1] (by kernel_rfl) ?_
  refine RP.p rfl (op_bin (qT (qN rfl (qN rfl (qN rfl (qN rfl f70))))) (show ev _ _ = some (.int .i64 (.ofNat 2)) from rfl) (by first | exact bin_eql_f (by omega) | exact bin_eqlI_f (by first | with_reducible assumption | omega)) ?_)
  refine pA rfl qS ?_
  refine RP.nil ?_
  refine Gives.else_ (qT qS) ?_
  refine Gives.seq ?_
  refine Gives.region [.p 0, .p 1] (by kernel_rfl) ?_
  refine RP.p rfl (op_bin (qT (qN rfl (qN rfl (qN rfl (qN rfl (qN rfl (qN rfl f70))))))) (show ev _ _ = some (.int .i64 (.ofNat 3)) from rfl) (by first | exact bin_eql_f (by omega) | exact bin_eqlI_f (by first | with_reducible assumption | omega)) ?_)
  refine pA rfl qS ?_
  refine RP.nil ?_
  refine Gives.else_ (qT qS) ?_
  refine Gives.seq ?_
  refine Gives.region [.p 0, .p 1] (by kernel_rfl) ?_
  refine RP.p rfl (op_bin (qT (qN rfl (qN rfl (qN rfl (qN rfl (qN rfl (qN rfl (qN rfl (qN rfl f70))))))))) (show ev _ _ = some (.int .i64 (.ofNat 4)) from rfl) (by first | exact bin_eql_t (by omega) | exact bin_eqlI_t (by first | with_reducible assumption | omega)) ?_)
  refine pA rfl qS ?_
  refine RP.nil ?_
  refine Gives.then_ (qT qS) ?_
  refine Gives.region [.p 0, .p 1, .e 2 [], .p 3, .e 4 [], .p 5] (by kernel_rfl) ?_
  refine pM rfl (by repeat (first | with_reducible (first | exact qS | assumption) | refine qN rfl ?_ | exact qO rfl)) ?_
  refine pM rfl (by repeat (first | with_reducible (first | exact qS | assumption) | refine qN rfl ?_ | exact qO rfl)) ?_
  refine RP.e rfl (op_calls (evs_cons (qT qS) evs_nil) (by kernel_rfl) (report_spec hS hw hG hwi) ?_)
  rintro v h1 ⟨rfl, hF1⟩
  refine RP.p rfl (op_buildSlice (e := 62) (s := 6) (z := .agg [nI 0, .bool false, .bool false, .bool false, nI 0, nI 0]) (cs := wordL ch (n % 256) lo wa re) Tryz.underlying51 (by kernel_rfl) (by kernel_rfl) (evParts_cons (qT (by repeat (first | with_reducible (first | exact qS | assumption) | refine qN rfl ?_ | exact qO rfl))) evParts_nil) rfl rfl ?_)
  have hF2 : Fr (fun _ => False) h1 (h1.new (.cells 6 (ofL (wordL ch (n % 256) lo wa re)))) := (Fr.refl hF1.wf).new _
  obtain ⟨dn', h3, ha, hR3, hF3, hb3, hn3⟩ := append_rowK (bytes := i62.bytes) (news := wordL ch (n % 256) lo wa re) hF2.wf (hSt.pq.1.fr hw (hF1.trans hF2) (fun _ _ e => e)) (by decide) rfl (by have := Nat.mul_le_mul_left (2 * (qs.length + 1)) hb62; omega) (by omega)
  have hT : Fr (blkOf dn) h h3 := ((Fr.refl hw).then (hF1.trans hF2) (fun c hc => hc.elim)).then hF3 (fun c hc => .inl hc)
  have hB : ∀ b, blkOf dn b → b < h.next → col b = 6 := fun b hb _ => hSt.pq.2 b hb
  have hnb : ∀ b, blkOf dn' b → h.next ≤ b := fun b hb => by { have := hb3 b hb; have := (hF1.trans hF2).next; omega }
  refine RP.e rfl (op_append (qT (by repeat (first | with_reducible (first | exact qS | assumption) | refine qN rfl ?_ | exact qO rfl))) (qT (by repeat (first | with_reducible (first | exact qS | assumption) | refine qN rfl ?_ | exact qO rfl))) (appendA_ofK (q := 6) Tryz.underlying51 hi62 (z := .agg [nI 0, .bool false, .bool false, .bool false, nI 0, nI 0]) (by kernel_rfl) rfl hs62 (by decide) (srcA_oneK (cs := wordL ch (n % 256) lo wa re) Tryz.underlying51 (by decide) (obj_new_same (by simp)) rfl (fun j hj => by unfold ofL; rw [at_puts, if_pos ⟨Nat.zero_le _, by show j < 0 + 6; omega⟩, Nat.sub_zero]) rfl) ha) ?_)
  refine pA rfl qS ?_
  refine RP.nil ?_
  exact ⟨(by repeat (first | with_reducible (first | exact qS | assumption) | refine qN rfl ?_ | exact qO rfl)), (by repeat (first | with_reducible (first | exact qS | assumption) | refine qN rfl ?_ | exact qO rfl)), (by repeat (first | with_reducible (first | exact qS | assumption) | refine qN rfl ?_ | exact qO rfl)), (by repeat (first | with_reducible (first | exact qS | assumption) | refine qN rfl ?_ | exact qO rfl)), colN h col (fun _ => 6), u, sv, up, dn', us, ss, pf, _, a, fl, fr, n, C, ps, qs ++ [n], now, (by repeat (first | with_reducible (first | exact qS | assumption) | refine qN rfl ?_ | exact qO rfl)), (by repeat (first | with_reducible (first | exact qS | assumption) | refine qN rfl ?_ | exact qO rfl)), (by repeat (first | with_reducible (first | exact qS | assumption) | refine qN rfl ?_ | exact qO rfl)), (by repeat (first | with_reducible (first | exact qS | assumption) | refine qN rfl ?_ | exact qO rfl)), (by repeat (first | with_reducible (first | exact qS | assumption) | refine qN rfl ?_ | exact qO rfl)), hnow, ⟨hT.wf, hSt.f1 hT (ne_of_eq hB (by decide)), hSt.o1, hSt.qf_.step hw hT (ne_of_eq hB (by decide)) colN_old, hSt.qg_.step hw hT (ne_of_eq hB (by decide)) colN_old, hSt.pu.step hw hT (ne_of_eq hB (by decide)) colN_old, hSt.pud.step hw hT (ne_of_eq hB (by decide)) colN_old, hSt.rs.step hw hT (ne_of_eq hB (by decide)) colN_old, hSt.rsd.step hw hT (ne_of_eq hB (by decide)) colN_old, hSt.pp.step hw hT (ne_of_eq hB (by decide)) colN_old, hSt.ppd.step hw hT (ne_of_eq hB (by decide)) colN_old, ⟨by rw [List.length_append]; exact hR3, fun b hb => colN_new (hnb b hb)⟩, hSt.pqd.snoc hSt.pq.1.1, hSt.inv.told⟩, by omega, by omega, by rw [List.length_append]; show qs.length + 1 ≤ i + 1; omega⟩
end Go.Abs
