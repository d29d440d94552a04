/- A region in whatever order. No condition. -/
import Derived.Scope
import Derived.Test.YtkihpcjfhilgcaaGreatZ05
namespace Go.Abs
variable {P : Program} {X : Ext0} {call : CallA} {ops : Array Oper} {n nn : Nat} {ρ : Option Nat} {Q : Exit → Act → World → Prop}
def PendOk (P : Program) (ops : Array Oper) (F : Fm) (h : H) (ι : Io) (h0 : H) (β : Nat → Option Nat) (reads : List Nat) (i : Nat) (o : Oper) (v : AV) : Prop :=
  (wantA F ops o = some false ∧ v = .tup []) ∨
  (wantA F ops o = some true ∧ (pop P F o.op = some (.val v) ∨
    (∃ ob k b, pop P F o.op = some (.new ob k) ∧ v = k.val b ∧ β i = some b ∧ ι b = none ∧ h0.next ≤ b ∧ h.obj b = some ob) ∨
    (i ∈ reads ∧ rop P F h o.op = some v)))
theorem PendOk.move {F F' : Fm} {h h' h0 : H} {ι ι' : Io} {β β' : Nat → Option Nat} {reads reads' : List Nat} {i : Nat} {o : Oper} {v : AV} (p : PendOk P ops F h ι h0 β reads i o v)
    (hF : ∀ t ∈ o.looksAt ops, F'.at t = F.at t) (hβ' : β' i = β i) (hβ : ∀ b, β i = some b → ι b = none → h0.next ≤ b → ι' b = none ∧ ∀ ob, h.obj b = some ob → h'.obj b = some ob)
    (hr : i ∈ reads → wantA F ops o = some true → rop P F h o.op = some v → i ∈ reads' ∧ rop P F h' o.op = some v) : PendOk P ops F' h' ι' h0 β' reads' i o v := by
  have hw : wantA F' ops o = wantA F ops o := wantA_congr hF
  have hp : pop P F' o.op = pop P F o.op := pop_congr (ops_congr hF)
  have hrp : rop P F' h' o.op = rop P F h' o.op := rop_congr (ops_congr hF)
  rcases p with ⟨h1, h2⟩ | ⟨h1, h2⟩
  · exact .inl ⟨hw.trans h1, h2⟩
  · refine .inr ⟨hw.trans h1, ?_⟩
    rcases h2 with h2 | ⟨ob, k, b, g1, g2, g3, g4, g5, g6⟩ | ⟨h2, h3⟩
    · exact .inl (hp.trans h2)
    · obtain ⟨k1, k2⟩ := hβ b g3 g4 g5
      exact .inr (.inl ⟨ob, k, b, hp.trans g1, g2, hβ'.trans g3, k1, g5, k2 ob g6⟩)
    · obtain ⟨k1, k2⟩ := hr h2 h1 h3
      exact .inr (.inr ⟨k1, hrp.trans k2⟩)
structure Dyn (P : Program) (ops : Array Oper) (n : Nat) (W : List Nat) (df : List Deferred) (ι0 : Io) (h0 : H) (w0 : World) (D reads : List Nat) (F : Fm) (h : H) (listed : Array Bool) (a : Act) (w : World) (ι : Io) (β : Nat → Option Nat) : Prop where
  size : listed.size = ops.size
  lst : ∀ i, Lst listed i → i ∈ D
  wl : ∀ i ∈ D, i ∈ W → Lst listed i
  down : Down ops listed
  r : R ι h w
  k : Keep ι0 ι h0 h w0 w
  tn : a.tmps.size = n
  df : a.defers = df
  fr : ∀ t v, F.at t = some v → (∀ i ∈ D, ¬ Lst listed i → ∀ o, ops[i]? = some o → o.dst ≠ some t) → ∃ u, a.tmps[t]? = some u ∧ VR ι v u
  pend : ∀ i ∈ D, ¬ Lst listed i → ∀ o, ops[i]? = some o → ∃ v, (∀ t, o.dst = some t → F.at t = some v) ∧ PendOk P ops F h ι h0 β reads i o v
  inj : ∀ i j b, β i = some b → β j = some b → i = j
  bnd : ∀ i b, β i = some b → b < h.next
theorem lst_set {listed : Array Bool} {i j : Nat} (hi : i < listed.size) : Lst (listed.setIfInBounds i true) j ↔ j = i ∨ Lst listed j := by
  unfold Lst
  simp only [Array.getD_eq_getD_getElem?, Array.getElem?_setIfInBounds]
  by_cases e : i = j
  · subst e; simp [hi]
  · rw [if_neg e]
    constructor
    · exact .inr
    · rintro (h | h)
      · exact absurd h.symm e
      · exact h
variable {W : List Nat} {df : List Deferred} {ι0 ι : Io} {h0 h h' : H} {w0 w : World} {D reads : List Nat} {F : Fm} {listed : Array Bool} {a : Act} {β β' : Nat → Option Nat}
theorem Dyn.add (d : Dyn P ops n W df ι0 h0 w0 D reads F h listed a w ι β) {i : Nat} {o : Oper} (st : St ops n W D i o) (hW : i ∉ W) (hx : HExt h h') (r' : R ι h' w) (k' : Keep ι0 ι h0 h' w0 w) {v : AV} {reads' : List Nat}
    (hβ : ∀ j, j ≠ i → β' j = β j) (inj' : ∀ i j b, β' i = some b → β' j = some b → i = j) (bnd' : ∀ i b, β' i = some b → b < h'.next)
    (hp : PendOk P ops F h' ι h0 β' reads' i o v) (hre : ∀ r ∈ reads, r ∈ reads') : Dyn P ops n W df ι0 h0 w0 (i :: D) reads' (putD F o.dst v) h' listed a w ι β' := {
  size := d.size
  lst j hj := List.mem_cons_of_mem _ (d.lst j hj)
  wl j hj hw := by
    rcases List.mem_cons.1 hj with rfl | hj
    · exact absurd hw hW
    · exact d.wl j hj hw
  down := d.down
  r := r'
  k := k'
  tn := d.tn
  df := d.df
  fr t v' hv' hno := by
    have hil : ¬ Lst listed i := fun hl => st.new (d.lst i hl)
    rw [at_putD, if_neg (hno i (by simp) hil o st.get)] at hv'
    exact d.fr t v' hv' fun j hj hjl oj hoj => hno j (by simp [hj]) hjl oj hoj
  pend j hj hjl oj hoj := by
    rcases List.mem_cons.1 hj with rfl | hj
    · have := st.get; rw [hoj] at this; cases this
      refine ⟨v, fun t ht => by rw [at_putD, if_pos ht], hp.move (fun t ht => ?_) rfl (fun b _ h1 _ => ⟨h1, fun _ h => h⟩) (fun h1 _ h2 => ⟨h1, h2⟩)⟩
      rw [at_putD, if_neg (fun e => (st.dst t e).2.1 ht)]
    · obtain ⟨v', g1, g2⟩ := d.pend j hj hjl oj hoj
      refine ⟨v', fun t ht => ?_, g2.move (fun t ht => ?_) (hβ j (fun e => st.new (e ▸ hj))) (fun b _ h1 _ => ⟨h1, hx b⟩) (fun h1 _ h2 => ⟨hre _ h1, rop_mono hx h2⟩)⟩
      · rw [at_putD, if_neg (fun e => (((st.dst t e).2.2 j hj oj hoj).resolve_right fun g => hW g.1).1 ht)]; exact g1 t ht
      · rw [at_putD, if_neg (fun e => (((st.dst t e).2.2 j hj oj hoj).resolve_right fun g => hW g.1).2 ht)]
  inj := inj'
  bnd := bnd' }
theorem HExt.new (r : R ι h w) (ob : AObj) (ho : ob ≠ .dead) : HExt h (h.new ob) := by
  intro b o hb
  rw [H.obj_new _ _ _ ho, if_neg]
  · exact hb
  · intro e; subst e; rw [r.wf _ (Nat.le_refl _)] at hb; cases hb
theorem map_not_new {α : Type} {x : Option α} {f : α → AV} {ob : AObj} {k : NK} (h : x.map (fun y => PR.val (f y)) = some (.new ob k)) : False := by
  cases x <;> cases h
theorem pop_new_ne {op : Op} {ob : AObj} {k : NK} (hp : pop P F op = some (.new ob k)) : ob ≠ .dead := by
  cases op <;> simp only [pop, rowP_eq] at hp <;> (try rw [Bool.cond_eq_ite] at hp) <;> repeat' (split at hp)
  all_goals first
    | (cases hp; done)
    | (cases hp; intro hh; cases hh)
    | exact (map_not_new (f := id) hp).elim
    | exact (map_not_new hp).elim
    | (rw [Bool.cond_eq_ite] at hp; repeat' (split at hp)
       all_goals first
         | (cases hp; done)
         | (cases hp; intro hh; cases hh)
         | exact (map_not_new (f := id) hp).elim
         | exact (map_not_new hp).elim
         | (rw [Bool.cond_eq_ite] at hp; split at hp
            · cases hp
            · cases hp))
theorem Dyn.stepN (d : Dyn P ops n W df ι0 h0 w0 D reads F h listed a w ι β) {s : PS} {o : Oper} (st : St ops n W D s.idx o) (hW : s.idx ∉ W) {F' : Fm} (hs : stepP P X call ops s F h = some (F', h')) (hne : ∀ i c, s ≠ .e i c) :
    ∃ β', Dyn P ops n W df ι0 h0 w0 (s.idx :: D) (match s with | .r i => i :: reads | _ => reads) F' h' listed a w ι β' := by
  have same : ∀ {v reads'}, PendOk P ops F h ι h0 β reads' s.idx o v → (∀ r ∈ reads, r ∈ reads') → Dyn P ops n W df ι0 h0 w0 (s.idx :: D) reads' (putD F o.dst v) h listed a w ι β :=
    fun hp hre => d.add st hW (.refl h) d.r d.k (fun _ _ => rfl) d.inj d.bnd hp hre
  have get := st.get
  cases s with
  | e i c => exact absurd rfl (hne i c)
  | p i =>
    simp only [PS.idx] at get same st hW ⊢
    simp only [stepP_eq, stepP0, get] at hs
    split at hs
    · rename_i hw
      split at hs
      · rename_i v hp; cases hs
        exact ⟨β, same (.inr ⟨hw, .inl hp⟩) (fun _ h => h)⟩
      · rename_i ob k hp; cases hs
        have hd := pop_new_ne hp
        have hfr := d.r.fresh h.next (Nat.le_refl _)
        refine ⟨fun j => if j = i then some h.next else if β j = some h.next then none else β j, d.add st hW (.new d.r ob hd) (d.r.newU ob hd) (d.k.trans (.newU d.r ob hd)) (fun j hj => ?_) (fun x y b hx hy => ?_) (fun x b hx => ?_) ?_ (fun _ h => h)⟩
        · show (if j = i then _ else _) = _
          rw [if_neg hj]
          rw [if_neg (fun e => by have := d.bnd _ _ e; omega)]
        · split at hx <;> split at hy
          · rename_i e1 e2; rw [e1, e2]
          · cases hx; split at hy
            · cases hy
            · rename_i e; exact absurd hy e
          · cases hy; split at hx
            · cases hx
            · rename_i e; exact absurd hx e
          · split at hx
            · cases hx
            · split at hy
              · cases hy
              · exact d.inj x y b hx hy
        · have hnx : (h.new ob).next = h.next + 1 := rfl
          rw [hnx]
          split at hx
          · cases hx; omega
          · split at hx
            · cases hx
            · have := d.bnd _ _ hx; omega
        · exact .inr ⟨hw, .inr (.inl ⟨ob, k, h.next, hp, rfl, by simp, hfr, d.k.next, by rw [H.obj_new _ _ _ hd, if_pos rfl]⟩)⟩
      · cases hs
    · rename_i hw; cases hs
      exact ⟨β, same (.inl ⟨hw, rfl⟩) (fun _ h => h)⟩
    · cases hs
  | r i =>
    simp only [PS.idx] at get same st hW ⊢
    simp only [stepP_eq, stepP0, get] at hs
    split at hs
    · rename_i hw
      split at hs
      · rename_i v hp; cases hs
        exact ⟨β, same (.inr ⟨hw, .inr (.inr ⟨by simp, hp⟩)⟩) (fun _ h => by simp [h])⟩
      · cases hs
    · rename_i hw; cases hs
      exact ⟨β, same (.inl ⟨hw, rfl⟩) (fun _ h => by simp [h])⟩
    · cases hs
theorem Dyn.exec (d : Dyn P ops n W df ι0 h0 w0 D reads F h listed a w ι β) (sd : SD ops n W D) {i : Nat} {o : Oper} (hi : i ∈ D) (hl : ¬ Lst listed i) (ho : ops[i]? = some o)
    (hready : ∀ e ∈ o.after, Region.binds .any e = true → Lst listed e.on) {K : Act → World → Prop}
    (hK : ∀ ι' a' w', Dyn P ops n W df ι0 h0 w0 D reads F h (listed.setIfInBounds i true) a' w' ι' β → K a' w') : wpOpIn (Gf ρ) nn P ops Q i K a w := by
  have hlt : i < listed.size := by rw [d.size]; exact (Array.getElem?_eq_some_iff.1 ho).1
  have hready' : ∀ o' e, ops[i]? = some o' → e ∈ o'.after → Region.binds .any e = true → Lst listed e.on := fun o' e h1 => by
    rw [ho] at h1; cases h1; exact hready e
  have hfo : FRo ι F a.tmps (o.looksAt ops) := fun t ht v hv => d.fr t v hv fun j hj hjl oj hoj hd => (sd.look hi hj ho hoj hd ht).elim (fun g => hjl (g.listed d.down hready')) (fun g => hjl (d.wl j hj g))
  have hdst : ∀ t, o.dst = some t → t < a.tmps.size := fun t ht => by rw [d.tn]; exact (sd.lt hi ho ht).1
  obtain ⟨v, hv, hp⟩ := d.pend i hi hl o ho
  -- what follows, whatever is laid
  have fin : ∀ {ι' : Io} {u : Value} {w' : World}, Ext ι ι' → VR ι' v u → R ι' h w' → Keep ι0 ι' h0 h w0 w' → (∀ j b, j ≠ i → β j = some b → ι b = none → h0.next ≤ b → ι' b = none) →
      Dyn P ops n W df ι0 h0 w0 D reads F h (listed.setIfInBounds i true) (a.put o.dst u) w' ι' β := by
    intro ι' u w' he hvu r' k' hβ
    refine ⟨by simp [d.size], fun j hj => ?_, fun j hj hw => (lst_set hlt).2 (.inr (d.wl j hj hw)), fun j oj e hoj hj h1 h2 => ?_, r', k', (put_size _ _).trans d.tn, (put_defers' _ _).trans d.df, fun t v' hv' hno => ?_, fun j hj hjl oj hoj => ?_, d.inj, d.bnd⟩
    · rcases (lst_set hlt).1 hj with rfl | hj
      · exact hi
      · exact d.lst j hj
    · rcases (lst_set hlt).1 hj with rfl | hj
      · exact (lst_set hlt).2 (.inr (hready' oj e hoj h1 h2))
      · exact (lst_set hlt).2 (.inr (d.down j oj e hoj hj h1 h2))
    · rw [put_tmps _ _ _ hdst]
      by_cases e : o.dst = some t
      · rw [if_pos e]
        rw [hv t e] at hv'; cases hv'
        exact ⟨u, rfl, hvu⟩
      · rw [if_neg e]
        obtain ⟨u', g1, g2⟩ := d.fr t v' hv' fun j hj hjl oj hoj => by
          by_cases eji : j = i
          · subst eji; rw [ho] at hoj; cases hoj; exact e
          · exact hno j hj (fun hh => by rcases (lst_set hlt).1 hh with h1 | h1
                                         · exact eji h1
                                         · exact hjl h1) oj hoj
        exact ⟨u', g1, g2.mono he⟩
    · have hji : j ≠ i := fun e => hjl ((lst_set hlt).2 (.inl e))
      have hjl' : ¬ Lst listed j := fun e => hjl ((lst_set hlt).2 (.inr e))
      obtain ⟨v', g1, g2⟩ := d.pend j hj hjl' oj hoj
      exact ⟨v', g1, g2.move (fun _ _ => rfl) rfl (fun b hb h1 h2 => ⟨hβ j b hji hb h1 h2, fun _ h => h⟩) (fun h1 _ h2 => ⟨h1, h2⟩)⟩
  rcases hp with ⟨hw, rfl⟩ | ⟨hw, hp⟩
  · refine wpOpIn_some ho (wanted_spec hw hfo) ?_
    exact hK ι _ _ (fin (.refl _) (undef_vr ι) d.r d.k fun _ _ _ _ h _ => h)
  · refine wpOpIn_some ho (wanted_spec hw hfo) ?_
    simp only [if_true]
    have hres := hfo.res
    rcases hp with hp | ⟨ob, k, b, g1, rfl, g3, g4, g5, g6⟩ | ⟨_, hp⟩
    · refine val_wp o hres ((pop_congr resT_ev).trans hp) fun u hu => hK ι _ _ (fin (.refl _) hu d.r d.k fun _ _ _ _ h _ => h)
    · refine new_wp o hres ((pop_congr resT_ev).trans g1) fun O ext u q0 q1 q2 => ?_
      have he : Ext ι (upd ι b ⟨w.heap.size, 0, ext⟩) := .upd _ g4
      refine hK (upd ι b ⟨w.heap.size, 0, ext⟩) _ _ (fin he (q1 _ _ he (upd_same _ _ _)) (d.r.realize g4 (d.bnd _ _ g3) O ext fun o' ho' => ?_) (d.k.realize g4 g5 O ext) fun j b' hj hb' hn _ => ?_)
      · rw [g6] at ho'; cases ho'; exact q2 _ he
      · rw [upd_other]
        · exact hn
        · intro e; subst e; exact hj (d.inj _ _ _ hb' g3)
    · refine read_wp o hres d.r ((rop_congr resT_ev).trans hp) fun u hu => hK ι _ _ (fin (.refl _) hu d.r d.k fun _ _ _ _ h _ => h)
end Go.Abs

/- A region in whatever order: effects, and the whole. No condition. -/
namespace Go.Abs
variable {P : Program} {X : Ext0} {call : CallA} {ops : Array Oper} {n nn : Nat} {ρ : Option Nat} {Q : Exit → Act → World → Prop}
variable {W : List Nat} {df : List Deferred} {ι0 ι : Io} {h0 h h' : H} {w0 w : World} {D reads : List Nat} {F : Fm} {listed : Array Bool} {a : Act} {β β' : Nat → Option Nat}
theorem effA_congr {F' : Fm} {op : Op} (hh : ∀ x ∈ op.operands.toList, ev F x = ev F' x) : effA P X call F h op = effA P X call F' h op := by
  unfold effA; rw [eop_congr hh]
theorem chkR_spec {F' : Fm} {r : Nat} {o : Oper} {v : AV} (hc : chkR P F' h' ops r = true) (ho : ops[r]? = some o) (hF : ∀ t ∈ o.looksAt ops, F'.at t = F.at t) (hv : ∀ t, o.dst = some t → F'.at t = some v)
    (hw : wantA F ops o = some true) : rop P F h' o.op = some v := by
  unfold chkR at hc
  simp only [ho, wantA_congr hF, hw] at hc
  split at hc
  · rename_i t ht
    split at hc
    · rename_i v1 v2 h1 h2
      rw [hv t ht] at h2; cases h2
      rw [AV.same_eq hc] at h1
      rw [← rop_congr (ops_congr hF)]; exact h1
    · cases hc
  · cases hc
theorem Dyn.eff (hX : ExtSound P X) (hC : CallSound P call) (d : Dyn P ops n W df ι0 h0 w0 D reads F h listed a w ι β) {i : Nat} {chk : List Nat} {o : Oper} (st : St ops n W D i o)
    (hready : ∀ e ∈ o.after, Region.binds .any e = true → Lst listed e.on) {F' : Fm} (hs : stepP P X call ops (.e i chk) F h = some (F', h')) (hreads : ∀ r ∈ reads, Anc ops r i ∨ r ∈ chk)
    {K : Act → World → Prop} (hK : ∀ ι' a' w', Dyn P ops n W df ι0 h0 w0 (i :: D) reads F' h' (listed.setIfInBounds i true) a' w' ι' β → K a' w') : wpOpIn (Gf ρ) nn P ops Q i K a w := by
  have ho := st.get
  have hil : ¬ Lst listed i := fun hl => st.new (d.lst i hl)
  have hlt : i < listed.size := by rw [d.size]; exact (Array.getElem?_eq_some_iff.1 ho).1
  have hready' : ∀ o' e, ops[i]? = some o' → e ∈ o'.after → Region.binds .any e = true → Lst listed e.on := fun o' e h1 => by
    rw [ho] at h1; cases h1; exact hready e
  have hfo : FRo ι F a.tmps (o.looksAt ops) := fun t ht v hv => d.fr t v hv fun j hj hjl oj hoj hd => hjl ((st.look j hj oj t hoj hd ht).listed d.down hready')
  have hdst : ∀ t, o.dst = some t → t < a.tmps.size := fun t ht => by rw [d.tn]; exact (st.dst t ht).1
  have fin : ∀ {ι' : Io} {v : AV} {u : Value} {w' : World} {h1 : H}, VR ι' v u → R ι' h1 w' → Keep ι ι' h h1 w w' → chk.all (chkR P (putD F o.dst v) h1 ops) = true →
      Dyn P ops n W df ι0 h0 w0 (i :: D) reads (putD F o.dst v) h1 (listed.setIfInBounds i true) (a.put o.dst u) w' ι' β := by
    intro ι' v u w' h1 hvu r' k' hchk
    refine ⟨by simp [d.size], fun j hj => ?_, fun j hj hw => (lst_set hlt).2 ((List.mem_cons.1 hj).imp id fun hj => d.wl j hj hw), fun j oj e hoj hj h1 h2 => ?_, r', d.k.trans k', (put_size _ _).trans d.tn, (put_defers' _ _).trans d.df, fun t v' hv' hno => ?_, fun j hj hjl oj hoj => ?_, d.inj, fun j b hb => Nat.lt_of_lt_of_le (d.bnd j b hb) k'.next⟩
    · rcases (lst_set hlt).1 hj with rfl | hj
      · simp
      · exact List.mem_cons_of_mem _ (d.lst j hj)
    · rcases (lst_set hlt).1 hj with rfl | hj
      · exact (lst_set hlt).2 (.inr (hready' oj e hoj h1 h2))
      · exact (lst_set hlt).2 (.inr (d.down j oj e hoj hj h1 h2))
    · rw [put_tmps _ _ _ hdst]
      rw [at_putD] at hv'
      by_cases e : o.dst = some t
      · rw [if_pos e] at hv' ⊢; cases hv'; exact ⟨u, rfl, hvu⟩
      · rw [if_neg e] at hv' ⊢
        obtain ⟨u', g1, g2⟩ := d.fr t v' hv' fun j hj hjl oj hoj => hno j (by simp [hj]) (fun hh => by
          rcases (lst_set hlt).1 hh with h1 | h1
          · exact st.new (h1 ▸ hj)
          · exact hjl h1) oj hoj
        exact ⟨u', g1, g2.mono k'.ext⟩
    · have hji : j ≠ i := fun e => hjl ((lst_set hlt).2 (.inl e))
      have hjl' : ¬ Lst listed j := fun e => hjl ((lst_set hlt).2 (.inr e))
      have hj' : j ∈ D := (List.mem_cons.1 hj).resolve_left hji
      obtain ⟨v', g1, g2⟩ := d.pend j hj' hjl' oj hoj
      have hF : ∀ t ∈ oj.looksAt ops, (putD F o.dst v).at t = F.at t := fun t ht => by
        rw [at_putD, if_neg (fun e => ((st.dst t e).2.2 j hj' oj hoj).elim (fun g => g.2 ht) (fun g => hjl' (g.2.listed d.down hready')))]
      have hv' : ∀ t, oj.dst = some t → (putD F o.dst v).at t = some v' := fun t ht => by
        rw [at_putD, if_neg (fun e => ((st.dst t e).2.2 j hj' oj hoj).elim (fun g => g.1 ht) (fun g => hjl' (g.2.listed d.down hready')))]; exact g1 t ht
      refine ⟨v', hv', g2.move hF rfl (fun b hb h1 h2 => ?_) (fun hr hw hrop => ?_)⟩
      · obtain ⟨q1, q2⟩ := k'.unreal b (d.bnd j b hb) h1
        refine ⟨q1, fun ob hob => ?_⟩
        unfold H.obj at hob ⊢
        rw [q2]; exact hob
      · rcases hreads j hr with q | q
        · exact absurd (q.listed d.down hready') hjl'
        · exact ⟨hr, chkR_spec (List.all_eq_true.1 hchk j q) hoj hF hv' hw⟩
  simp only [stepP_eq, stepP0, ho] at hs
  split at hs
  · rename_i hw
    refine wpOpIn_some ho (wanted_spec hw hfo) ?_
    simp only [if_true]
    split at hs
    · rename_i v h1 hp
      rw [Bool.cond_eq_ite] at hs
      split at hs
      · rename_i hchk; cases hs
        exact eff_wp hX hC o hfo.res d.r ((effA_congr resT_ev).trans hp) fun ι' u w' g1 g2 g3 => hK _ _ _ (fin g1 g2 g3 hchk)
      · cases hs
    · cases hs
  · rename_i hw
    rw [Bool.cond_eq_ite] at hs
    split at hs
    · rename_i hchk; cases hs
      exact wpOpIn_some ho (wanted_spec hw hfo) (hK ι _ _ (fin (undef_vr ι) d.r (.refl _ _ _) hchk))
    · cases hs
  · cases hs
structure Sta (P : Program) (X : Ext0) (call : CallA) (ops : Array Oper) (n : Nat) (W : List Nat) (df : List Deferred) (ι0 : Io) (h0 : H) (w0 : World) (Ff : Fm) (hf : H) (todo : List PS) (D reads es : List Nat) (T : List (Nat × Nat)) (F : Fm) (h : H) (listed : Array Bool)
    (a : Act) (w : World) (ι : Io) (β : Nat → Option Nat) : Prop where
  chk : chkPlan ops n W D reads es T todo = true
  mask : MaskOk ops D T
  sd : SD ops n W D
  run : runP P X call ops todo F h = some (Ff, hf)
  dyn : Dyn P ops n W df ι0 h0 w0 D reads F h listed a w ι β
theorem Sta.catch {Ff : Fm} {hf : H} : ∀ {todo : List PS} {D reads es : List Nat} {T : List (Nat × Nat)} {F : Fm} {h : H} {β : Nat → Option Nat}, Sta P X call ops n W df ι0 h0 w0 Ff hf todo D reads es T F h listed a w ι β →
    ∃ todo' D' reads' es' T' F' h' β', Sta P X call ops n W df ι0 h0 w0 Ff hf todo' D' reads' es' T' F' h' listed a w ι β' ∧ (todo' = [] ∨ ∃ i chk rest, todo' = .e i chk :: rest)
  | [], D, reads, es, T, F, h, β, s => ⟨_, _, _, _, _, _, _, _, s, .inl rfl⟩
  | .e i chk :: rest, D, reads, es, T, F, h, β, s => ⟨_, _, _, _, _, _, _, _, s, .inr ⟨_, _, _, rfl⟩⟩
  | .p i :: rest, D, reads, es, T, F, h, β, s => by
    obtain ⟨o, m, h1, h2, h3, h4⟩ := chkPlan_cons s.chk s.mask
    have hrun := s.run
    simp only [runP] at hrun
    split at hrun
    · rename_i F1 h1' hst
      obtain ⟨β', hd⟩ := s.dyn.stepN h1 h4.1 hst (fun i c hh => by cases hh)
      exact Sta.catch ⟨h4.2, h3, ⟨⟨o, h1⟩, s.sd⟩, hrun, hd⟩
    · cases hrun
  | .r i :: rest, D, reads, es, T, F, h, β, s => by
    obtain ⟨o, m, h1, h2, h3, h4⟩ := chkPlan_cons s.chk s.mask
    have hrun := s.run
    simp only [runP] at hrun
    split at hrun
    · rename_i F1 h1' hst
      obtain ⟨β', hd⟩ := s.dyn.stepN h1 h4.1 hst (fun i c hh => by cases hh)
      exact Sta.catch ⟨h4.2, h3, ⟨⟨o, h1⟩, s.sd⟩, hrun, hd⟩
    · cases hrun
theorem not_lst {listed : Array Bool} {i : Nat} (h : listed.getD i true = false) : ¬ Lst listed i := by
  unfold Lst
  rw [Array.getD_eq_getD_getElem?] at h ⊢
  cases hg : listed[i]? with
  | none => rw [hg] at h; cases h
  | some b => rw [hg] at h; simp at h ⊢; exact h
theorem lst_not {listed : Array Bool} {i : Nat} (hi : i < listed.size) (h : ¬ Lst listed i) : listed.getD i true = false := by
  unfold Lst at h
  rw [Array.getD_eq_getD_getElem?] at h ⊢
  simp [hi] at h ⊢; exact h
theorem count_set {listed : Array Bool} {i : Nat} {f : Nat} (hi : i < listed.size) (h : ¬ Lst listed i) (hc : listed.toList.count false ≤ f + 1) : (listed.setIfInBounds i true).toList.count false ≤ f := by
  have h1 : listed[i] = false := by
    unfold Lst at h; rw [Array.getD_eq_getD_getElem?] at h; simp [hi] at h; exact h
  have hi' : i < listed.toList.length := by simpa using hi
  rw [Array.toList_setIfInBounds, List.count_set hi']
  have h2 : listed.toList[i] = false := by simpa using h1
  rw [h2]
  simp only [beq_self_eq_true, if_true]
  simp
  simp at hc
  omega
theorem count_zero {listed : Array Bool} {i : Nat} (hi : i < listed.size) (hc : listed.toList.count false ≤ 0) : Lst listed i := by
  have h0 : listed.toList.count false = 0 := by omega
  rw [List.count_eq_zero] at h0
  unfold Lst
  rw [Array.getD_eq_getD_getElem?]
  simp only [Array.getElem?_eq_getElem hi, Option.getD_some]
  cases hb : listed[i] with
  | true => rfl
  | false => exact absurd (by rw [← hb]; simp) h0
theorem any_sound (hX : ExtSound P X) (hC : CallSound P call) {Ff : Fm} {hf : H} {a0 : Act} (hn : a0.tmps.size = n) (hdf : a0.defers = df)
    (fin : ∀ ι' a' w', Post ι0 h0 w0 a0 Ff hf ι' a' w' → Q .normal a' w') :
    ∀ (fuel : Nat) {listed : Array Bool} {a : Act} {w : World} {ι : Io} {todo : List PS} {D reads es : List Nat} {T : List (Nat × Nat)} {F : Fm} {h : H} {β : Nat → Option Nat},
    Sta P X call ops n W df ι0 h0 w0 Ff hf todo D reads es T F h listed a w ι β → listed.toList.count false ≤ fuel → wpAnyIn (Gf ρ) nn P .any ops Q fuel listed a w := by
  have main : ∀ {listed : Array Bool} {a : Act} {w : World} {ι : Io} {todo : List PS} {D reads es : List Nat} {T : List (Nat × Nat)} {F : Fm} {h : H} {β : Nat → Option Nat},
      Sta P X call ops n W df ι0 h0 w0 Ff hf todo D reads es T F h listed a w ι β → Region.ready .any ops listed = [] → Q .normal a w := by
    intro listed a w ι todo D reads es T F h β s hr
    obtain ⟨todo, D, reads, es, T, F, h, β, s, hhead⟩ := s.catch
    have hall : ∀ i ∈ D, Lst listed i := fun i hi => Classical.byContradiction fun hni => by
      obtain ⟨j, hj, hjl, o, ho, hrd⟩ := s.sd.ready ⟨i, hi, hni⟩
      have hjs : j < listed.size := by rw [s.dyn.size]; exact (Array.getElem?_eq_some_iff.1 ho).1
      have : j ∈ Region.ready .any ops listed := mem_ready.2 ⟨lst_not hjs hjl, o, ho, hrd⟩
      rw [hr] at this; cases this
    rcases hhead with rfl | ⟨i, chk, rest, rfl⟩
    · have hrun := s.run
      cases hrun
      exact fin ι a w ⟨fun t v hv => s.dyn.fr t v hv fun i hi hil => absurd (hall i hi) hil, s.dyn.r, s.dyn.k, s.dyn.tn.trans hn.symm, s.dyn.df.trans hdf.symm⟩
    · obtain ⟨o, m, h1, h2, h3, h4⟩ := chkPlan_cons s.chk s.mask
      have ho := h1.get
      have hjs : i < listed.size := by rw [s.dyn.size]; exact (Array.getElem?_eq_some_iff.1 ho).1
      have : i ∈ Region.ready .any ops listed := mem_ready.2 ⟨lst_not hjs (fun hl => h1.new (s.dyn.lst i hl)), o, ho, fun e he hb => hall _ (h1.aft e he hb)⟩
      rw [hr] at this; cases this
  intro fuel
  induction fuel with
  | zero =>
    intro listed a w ι todo D reads es T F h β s hc
    have hr : Region.ready .any ops listed = [] := by
      cases hrd : Region.ready .any ops listed with
      | nil => rfl
      | cons j js =>
        have hj : j ∈ Region.ready .any ops listed := by rw [hrd]; simp
        obtain ⟨g1, o, ho, _⟩ := mem_ready.1 hj
        exact absurd (count_zero (by rw [s.dyn.size]; exact (Array.getElem?_eq_some_iff.1 ho).1) hc) (not_lst g1)
    exact ⟨hr, main s hr⟩
  | succ fuel ih =>
    intro listed a w ι todo D reads es T F h β s hc
    refine ⟨main s, fun i hi => ?_⟩
    obtain ⟨todo, D, reads, es, T, F, h, β, s, hhead⟩ := s.catch
    obtain ⟨g1, o, ho, hrd⟩ := mem_ready.1 hi
    have hil := not_lst g1
    have his : i < listed.size := by rw [s.dyn.size]; exact (Array.getElem?_eq_some_iff.1 ho).1
    have hc' := count_set his hil hc
    have old : i ∈ D → wpOpIn (Gf ρ) nn P ops Q i (wpAnyIn (Gf ρ) nn P .any ops Q fuel (listed.setIfInBounds i true)) a w := fun hD =>
      s.dyn.exec s.sd hD hil ho hrd fun ι' a' w' d' => ih ⟨s.chk, s.mask, s.sd, s.run, d'⟩ hc'
    rcases (chkPlan_all s.chk s.mask).1 i (by rw [← s.dyn.size]; exact his) with hD | hT
    · exact old hD
    · rcases hhead with rfl | ⟨j, chk, rest, rfl⟩
      · simp at hT
      · obtain ⟨oj, m, h1, h2, h3, h4⟩ := chkPlan_cons s.chk s.mask
        by_cases e : i = j
        · subst e
          have hoj := h1.get
          simp only [PS.idx] at hoj
          rw [ho] at hoj; cases hoj
          have hrun := s.run
          simp only [runP] at hrun
          split at hrun
          · rename_i F1 h1' hst
            exact Dyn.eff hX hC s.dyn h1 hrd hst h4.1 fun ι' a' w' d' => ih ⟨h4.2, h3, ⟨⟨o, h1⟩, s.sd⟩, hrun, d'⟩ hc'
          · cases hrun
        · have hT' : i ∈ rest.map PS.idx := by
            rcases List.mem_cons.1 hT with h | h
            · exact absurd h e
            · exact h
          obtain ⟨s', hs', rfl⟩ := List.mem_map.1 hT'
          have hanc := (chkPlan_all h4.2 h3).2 s' hs' j (by simp [PS.idx])
          have hjl := hanc.listed s.dyn.down fun o' e' q1 q2 q3 => by rw [ho] at q1; cases q1; exact hrd e' q2 q3
          exact absurd (s.dyn.lst j hjl) h1.new
theorem regA_sound (hX : ExtSound P X) (hC : CallSound P call) (hm : P.follows .mixedOrders = true) {id : Nat} {draw : Bool} {F' : Fm} (hreg : regA P X call n ops draw F h = some (F', h')) (hf : FR ι F a.tmps) (r : R ι h w) (hn : a.tmps.size = n)
    (hQ : ∀ ι' a' w', Post ι h w a F' h' ι' a' w' → Q .normal a' w') : (Code.region id ops draw).wpIn (Gf ρ) nn P Q a w := by
  unfold regA at hreg
  cases draw with
  | false =>
    simp only [cond_false] at hreg
    rw [Bool.cond_eq_ite] at hreg
    split at hreg
    · rename_i hd
      refine wpIn_region ?_
      have := seq_sound (ρ := ρ) (nn := nn) (Q := Q) hX hC ops.toList 0 (fun j => by simp) hd hn hreg hf r hQ
      rw [List.range_eq_range']
      simpa using this
    · cases hreg
  | true =>
    simp only [cond_true] at hreg
    rw [Bool.cond_eq_ite] at hreg
    split at hreg
    · rename_i hc
      refine wpIn_region_any hm (any_sound hX hC (a0 := a) (df := a.defers) hn rfl hQ ops.size (W := wOf (mkPlan P ops)) (todo := mkPlan P ops) (D := []) (reads := []) (es := []) (T := []) (F := F) (h := h) (ι := ι) (β := fun _ => none)
        ⟨hc, fun i m hm => (by simp [maskAt] at hm), trivial, hreg, ⟨by simp, fun i hi => ?_, fun i hi => (by simp at hi), fun i o e _ hi => ?_, r.drew, (Keep.refl _ _ _).drew, hn, rfl, fun t v hv _ => hf t v hv, fun i hi => (by simp at hi), fun i j b hb => (by cases hb), fun i b hb => (by cases hb)⟩⟩ ?_)
      · unfold Lst at hi
        rw [Array.getD_eq_getD_getElem?, Array.getElem?_replicate] at hi
        split at hi <;> simp at hi
      · unfold Lst at hi
        rw [Array.getD_eq_getD_getElem?, Array.getElem?_replicate] at hi
        split at hi <;> simp at hi
      · simp
    · cases hreg
end Go.Abs

/- The code of a function, looked at. No condition. -/
namespace Go.Abs
inductive Ex where
  | normal
  | exit (id : Nat)
  | ret
structure Out where
  ex : Ex
  F : Fm
  ds : List Nat
  h : H
noncomputable def loopA (body : Fm → List Nat → H → Option Out) : Nat → Fm → List Nat → H → Option Out
  | 0, _, _, _ => none
  | k + 1, F, ds, h => match body F ds h with
    | some ⟨.normal, F', ds', h'⟩ => loopA body k F' ds' h'
    | r => r
noncomputable def endA (F : Fm) (ds : List Nat) (l : Nat) (h : H) : Option Out :=
  match h.obj l with
  | some (.loop .busy _ _ _ _ _ _ _) => none
  | some (.loop _ none n fr ps as bd d) => some ⟨.normal, F, ds, h.set l (.loop .exhausted none n fr ps as bd d)⟩
  | some (.loop _ (some .ret) n fr ps as bd d) => some ⟨.ret, F, ds, h.set l (.loop .exhausted (some .ret) n fr ps as bd d)⟩
  | some (.loop _ (some (.exit id)) n fr ps as bd d) => some ⟨.exit id, F, ds, h.set l (.loop .exhausted (some (.exit id)) n fr ps as bd d)⟩
  | _ => none
noncomputable def execC (P : Program) (X : Ext0) (call : CallA) (L n : Nat) (inR : Bool) : Code → Fm → List Nat → H → Option Out
  | .skip, F, ds, h => some ⟨.normal, F, ds, h⟩
  | .label _, F, ds, h => some ⟨.normal, F, ds, h⟩
  | .region _ ops draw, F, ds, h => match regA P X call n ops draw F h with
    | some (F', h') => some ⟨.normal, F', ds, h'⟩
    | none => none
  | .seq a b, F, ds, h => match execC P X call L n inR a F ds h with
    | some ⟨.normal, F', ds', h'⟩ => execC P X call L n inR b F' ds' h'
    | r => r
  | .cond c a b, F, ds, h => match ev F c with
    | some (.bool true) => execC P X call L n inR a F ds h
    | some (.bool false) => execC P X call L n inR b F ds h
    | _ => none
  | .block id b, F, ds, h => match execC P X call L n inR b F ds h with
    | some ⟨.exit j, F', ds', h'⟩ => bif Nat.beq j id then some ⟨.normal, F', ds', h'⟩ else some ⟨.exit j, F', ds', h'⟩
    | r => r
  | .loop b, F, ds, h => loopA (execC P X call L n inR b) L F ds h
  | .scope b, F, ds, h => bif inR then none else execC P X call L n inR b F ds h
  | .exit id, F, ds, h => some ⟨.exit id, F, ds, h⟩
  | .ret, F, ds, h => some ⟨.ret, F, ds, h⟩
  | .rangeFunc g ps as bd, F, ds, h => bif inR then none else
    match ev F g with
    | some (.func (.func f) first cap) => bif okFn P f then
        match call (.fn f) (first ++ [.func (.yield (h.next + 1)) [] []] ++ cap) ((h.new .defr).new (.loop .ready none n F ps.toList as bd h.next)) with
        | some (_, h2) => endA F (h.next :: ds) (h.next + 1) h2
        | none => none
      else none
    | _ => none
  | .goto _, _, _, _ => none
  | .refuse _, _, _, _ => none
noncomputable def killDs : List Nat → H → Option H
  | [], h => some h
  | d :: ds, h => match h.obj d with
    | some .defr => killDs ds (h.set d .dead)
    | _ => none
noncomputable def resA (P : Program) (h : H) (F : Fm) : List ResultVar → Option (List AV)
  | [] => some []
  | .tmp t :: r => match F.at t with
    | some v => match resA P h F r with
      | some vs => some (v :: vs)
      | none => none
    | none => none
  | .cell t ty :: r => match F.at t with
    | some (.ptr b o) => match loadA P h ty b o with
      | some v => match resA P h F r with
        | some vs => some (v :: vs)
        | none => none
      | none => none
    | _ => none
def retV : List AV → AV
  | [v] => v
  | vs => .tup vs
noncomputable def fnA (P : Program) (X : Ext0) (call : CallA) (L : Nat) (f : FuncId) (args : List AV) (h : H) : Option (AV × H) :=
  match P.funcs[f]? with
  | some fn => match fn.body with
    | some c => forceN (Nat.max args.length fn.ntmps) fun n => forceL args fun args => putsK .nil 0 args fun F0 => match execC P X call L n false c F0 [] h with
      | some ⟨.exit _, _, _, _⟩ => none
      | some ⟨_, F, ds, h'⟩ => match killDs ds h' with
        | some h2 => match resA P h2 F fn.results.toList with
          | some vs => some (retV vs, h2)
          | none => none
        | none => none
      | none => none
    | none => none
  | none => none
noncomputable def putParams (fr : Fm) : List Tmp → List AV → Option Fm
  | [], [] => some fr
  | p :: ps, v :: vs => putParams (fr.put p v) ps vs
  | _, _ => none
def paramsOk (n : Nat) (ps : List Tmp) : Bool := ps.all fun t => Nat.blt t n
noncomputable def roundEnd (l : Nat) (ex : Ex) (h : H) : Option (AV × H) :=
  match h.obj l with
  | some (.loop _ _ n fr ps as bd d) => match ex with
    | .normal => some (.bool true, h.set l (.loop .ready none n fr ps as bd d))
    | .ret => some (.bool false, h.set l (.loop .done (some .ret) n fr ps as bd d))
    | .exit id => some (.bool false, h.set l (.loop .done (some (.exit id)) n fr ps as bd d))
  | _ => none
noncomputable def yieldA (P : Program) (X : Ext0) (call : CallA) (L : Nat) (l : Nat) (args : List AV) (h : H) : Option (AV × H) :=
  match h.obj l with
  | some (.loop _ _ n fr ps as bd _) => match putParams fr ps args with
    | some F0 => bif paramsOk n ps then
      match execC P X call L n true as F0 [] h with
      | some ⟨.normal, F1, ds1, h1⟩ => match h1.obj l with
        | some (.loop .ready pend n' fr' ps' as' bd' d') =>
          match execC P X call L n true bd F1 ds1 (h1.set l (.loop .busy pend n' fr' ps' as' bd' d')) with
          | some ⟨ex, _, _, h2⟩ => roundEnd l ex h2
          | none => none
        | _ => none
      | _ => none
      else none
    | none => none
  | _ => none
abbrev Sums := FuncId → Option (List AV → H → Option (AV × H))
noncomputable def callA (P : Program) (X : Ext0) (S : Sums) (L : Nat) : Nat → CallA
  | 0 => fun _ _ _ => none
  | d + 1 => fun t args h => match t with
    | .fn f => match S f with
      | some s => s args h
      | none => fnA P X (callA P X S L d) L f args h
    | .yield l => yieldA P X (callA P X S L d) L l args h
def DRel (ι : Io) : List Nat → List Deferred → Prop
  | [], [] => True
  | d :: ds, x :: xs => (∃ p, ι d = some p ∧ x = { target := .collected p.blk, args := #[] }) ∧ DRel ι ds xs
  | _, _ => False
theorem DRel.mono {ι ι' : Io} (he : Ext ι ι') : ∀ {ds : List Nat} {xs : List Deferred}, DRel ι ds xs → DRel ι' ds xs
  | [], [], _ => trivial
  | _d :: _ds, _x :: _xs, h => ⟨let ⟨p, h1, h2⟩ := h.1; ⟨p, he _ _ h1, h2⟩, DRel.mono he h.2⟩
  | [], _ :: _, h => h.elim
  | _ :: _, [], h => h.elim
variable {P : Program} {X : Ext0} {call : CallA} {ι : Io} {h : H} {w : World}
theorem R.take (r : R ι h w) {d : Nat} {p : Pl} {O : Obj} {o : AObj} (hb : h.obj d = some o) (hp : ι d = some p) (hrw : o.rw = true := by rfl) :
    R ι (h.set d .dead) (w.putObj p.blk O) ∧ Keep ι ι h (h.set d .dead) w (w.putObj p.blk O) := by
  refine ⟨⟨fun c oc q h1 h2 => ?_, (r.kill d).inj, r.fresh, fun c q h1 => by rw [World.putObj_size]; exact r.bound c q h1, (r.kill d).wf⟩, ?_⟩
  · rw [H.obj_kill] at h1
    split at h1
    · cases h1
    · rename_i hcd
      have hne : q.blk ≠ p.blk := fun he => hcd (r.inj c d _ _ q p h1 hb h2 hp he)
      exact (r.obj c oc q h1 h2).move (.refl ι) (World.putObj_heap_other hne)
  · have k := Keep.kill r hp
    exact ⟨k.ext, k.next, k.unreal, k.own, rfl, rfl, rfl, by rw [World.putObj_size]; exact Nat.le_refl _, fun j hj ho => World.putObj_heap_other (fun e => ho d p _ hp hb hrw e.symm)⟩
theorem killDs_leaves {fn : Func} {tmps : Array Value} {E : Ending → World → Prop} {n : Nat} : ∀ {ds : List Nat} {xs : List Deferred} {h h2 : H} {w : World}, DRel ι ds xs → killDs ds h = some h2 → R ι h w →
    (∀ w', R ι h2 w' → Keep ι ι h h2 w w' → LeavesIn Fence.wide n P fn tmps E [] .returning w') → LeavesInM Fence.wide n P fn tmps E xs .returning w
  | [], [], h, h2, w, _, hk, r, hQ => by cases hk; exact hQ w r (.refl _ _ _)
  | [], _ :: _, _, _, _, hd, _, _, _ => hd.elim
  | _ :: _, [], _, _, _, hd, _, _, _ => hd.elim
  | d :: ds, x :: xs, h, h2, w, hd, hk, r, hQ => by
    obtain ⟨⟨p, hp, rfl⟩, hds⟩ := hd
    simp only [killDs] at hk
    split at hk
    · rename_i hob
      have hO : w.heap[p.blk]? = some (.deferred (some [])) := r.obj d _ p hob hp
      obtain ⟨r', k'⟩ := r.take (O := .deferred none) hob hp
      exact ⟨by simp, .inl ⟨p.blk, _, rfl, run_takeDeferred hO, killDs_leaves hds hk r' fun w' r'' k'' => hQ w' r'' (k'.trans k'')⟩⟩
    · cases hk
def resF (tmps : Array Value) : ResultVar → Sem Value
  | .tmp t => pure (tmps.getD t undef)
  | .cell a t => do loadVar t (← asAddr (tmps.getD a undef))
theorem resA_spec (r : R ι h w) {F : Fm} {tmps : Array Value} (hf : FR ι F tmps) : ∀ {rs : List ResultVar} {vs : List AV}, resA P h F rs = some vs →
    ∃ us : List Value, VRs ι vs us ∧ (rs.mapM (m := Sem) (resF tmps)).run P w = .ok us w
  | [], vs, h1 => by cases h1; exact ⟨[], .nil _, by simp⟩
  | .tmp t :: rs, vs, h1 => by
    simp only [resA] at h1
    split at h1
    · rename_i v hv
      split at h1
      · rename_i vs' hvs; cases h1
        obtain ⟨us, g1, g2⟩ := resA_spec r hf hvs
        obtain ⟨u, g3, g4⟩ := hf t v hv
        refine ⟨u :: us, .cons g4 g1, ?_⟩
        have hg : tmps.getD t undef = u := by rw [Array.getD_eq_getD_getElem?, g3]; rfl
        have ha : (resF tmps (.tmp t)).run P w = .ok u w := by simp [resF, hg]
        rw [List.mapM_cons, Sem.run_bind, ha, Result.andThen_ok, Sem.run_bind, g2]
        rfl
      · cases h1
    · cases h1
  | .cell t ty :: rs, vs, h1 => by
    simp only [resA] at h1
    split at h1
    · rename_i b o hv
      split at h1
      · rename_i v hl
        split at h1
        · rename_i vs' hvs; cases h1
          obtain ⟨us, g1, g2⟩ := resA_spec r hf hvs
          obtain ⟨u, g3, g4⟩ := hf t _ hv
          cases g4 with | ptr hp => ?_
          obtain ⟨u', g5, g6⟩ := loadA_spec (P := P) r hl hp
          rename_i p
          refine ⟨u' :: us, .cons g5 g1, ?_⟩
          have hg : tmps.getD t undef = .pointer (some ⟨p.blk, p.base + o, none⟩) := by rw [Array.getD_eq_getD_getElem?, g3]; rfl
          have ha : (resF tmps (.cell t ty)).run P w = .ok u' w := by simp [resF, hg, asAddr, g6]
          rw [List.mapM_cons, Sem.run_bind, ha, Result.andThen_ok, Sem.run_bind, g2]
          rfl
        · cases h1
      · cases h1
    · cases h1
theorem results_spec (r : R ι h w) {F : Fm} {tmps : Array Value} (hf : FR ι F tmps) {fn : Func} {vs : List AV} (hr : resA P h F fn.results.toList = some vs) :
    ∃ u, VR ι (retV vs) u ∧ (results fn tmps).run P w = .ok u w := by
  obtain ⟨us, g1, g2⟩ := resA_spec r hf hr
  refine ⟨if hh : us.toArray.size = 1 then us.toArray[0] else .tuple us.toArray, ?_, ?_⟩
  · match vs, us, g1 with
    | [], [], g1 => exact VR.tup_iff.2 ⟨[], rfl, .nil _⟩
    | [v], [u], g1 => exact g1.at_ 0 v u rfl rfl
    | v :: v' :: vs, u :: u' :: us, g1 =>
      rw [dif_neg (by simp)]
      exact VR.tup_iff.2 ⟨_, rfl, g1⟩
    | [], _ :: _, g1 => have := g1.len; simp at this
    | _ :: _, [], g1 => have := g1.len; simp at this
    | [_], _ :: _ :: _, g1 => have := g1.len; simp at this
    | _ :: _ :: _, [_], g1 => have := g1.len; simp at this
  · have e1 : results fn tmps = (do let vs ← fn.results.mapM (resF tmps); pure (if hh : vs.size = 1 then vs[0] else .tuple vs)) := by
      unfold results
      congr 2
    rw [e1, Sem.run_bind, Array.mapM_eq_mapM_toList, Sem.run_map, g2]
    rfl
end Go.Abs

/- The code of a function, looked at: sound. No condition. -/
namespace Go.Abs
variable {P : Program} {X : Ext0} {call : CallA} {n nn L : Nat}
def Ex.toExit : Ex → Exit
  | .normal => .normal
  | .exit id => .exit id
  | .ret => .ret
structure Left (n : Nat) (ι : Io) (h : H) (w : World) (o : Out) (ι' : Io) (a' : Act) (w' : World) : Prop where
  fr : FR ι' o.F a'.tmps
  ds : DRel ι' o.ds a'.defers
  r : R ι' o.h w'
  k : Keep ι ι' h o.h w w'
  tn : a'.tmps.size = n
theorem least {p : Nat → Prop} (h : ∃ k, p k) : ∃ k, p k ∧ ∀ j, j < k → ¬ p j := by
  obtain ⟨k, hk⟩ := h
  induction k using Nat.strongRecOn with
  | _ k ih =>
    by_cases hj : ∃ j, j < k ∧ p j
    · obtain ⟨j, hj, hp⟩ := hj; exact ih j hj hp
    · exact ⟨k, hk, fun j hjk hp => hj ⟨j, hjk, hp⟩⟩
theorem wpIn_loop_count {F : Fence} {c : Code} {Q : Exit → Act → World → Prop} (I : Nat → Act → World → Prop) (round : ∀ k a w, I k a w → ∃ k', k = k' + 1 ∧ c.wpIn F nn P (Exit.then (fun a' w' => I k' a' w') Q) a w)
    {k : Nat} {a : Act} {w : World} (h : I k a w) : (Code.loop c).wpIn F nn P Q a w := by
  classical
  have key : ∀ a w, (∃ k, I k a w) → ∃ m, I m a w ∧ ∀ j, j < m → ¬ I j a w := fun a w h => least h
  let μ : Act → World → Nat := fun a w => if h : ∃ k, I k a w then Classical.choose (key a w h) else 0
  refine wpIn_loop (fun a w => ∃ k, I k a w) μ ⟨k, h⟩ fun a w hI => ?_
  have hμ : μ a w = Classical.choose (key a w hI) := dif_pos hI
  obtain ⟨h1, h2⟩ := Classical.choose_spec (key a w hI)
  obtain ⟨k', hk, hr⟩ := round _ _ _ h1
  refine wpIn_mono hr fun e a' w' hq => ?_
  cases e with
  | normal =>
    have hq' : I k' a' w' := hq
    refine ⟨⟨k', hq'⟩, ?_⟩
    have hI' : ∃ k, I k a' w' := ⟨k', hq'⟩
    have hμ' : μ a' w' = Classical.choose (key a' w' hI') := dif_pos hI'
    obtain ⟨g1, g2⟩ := Classical.choose_spec (key a' w' hI')
    rw [hμ, hμ', hk]
    have : ¬ k' < Classical.choose (key a' w' hI') := fun hlt => g2 _ hlt hq'
    omega
  | exit id => exact hq
  | goto l => exact hq
  | ret => exact hq
  | panic c => exact hq
  | outgrown => exact hq
theorem rangeFunc_sound (hC : CallSound P call) {Q : Exit → Act → World → Prop} {g : Operand} {ps : Array Tmp} {as bd : Code} {F : Fm} {ds : List Nat} {h : H} {o : Out}
    (he : execC P X call L n false (.rangeFunc g ps as bd) F ds h = some o) {ι : Io} {a : Act} {w : World} (hf : FR ι F a.tmps) (hd : DRel ι ds a.defers) (r : R ι h w) (hn : a.tmps.size = n)
    (hQ : ∀ ι' a' w', Left n ι h w o ι' a' w' → Q o.ex.toExit a' w') : (Code.rangeFunc g ps as bd).wpIn Fence.wide nn P Q a w := by
  simp only [execC, cond_false] at he
  split at he
  · rename_i f first cap hg
    rw [Bool.cond_eq_ite] at he
    split at he
    · rename_i hok
      split at he
      · rename_i v0 h2 hcall
        have hv := hf.ev hg
        generalize hcg : a.eval g = cg at hv
        cases hv with | func q1 q2 q3 q4 q5 => ?_
        rename_i first' cap'
        refine wpIn_rangeFunc fun fn _ => ?_
        -- the two blocks
        have r1 : R (upd ι h.next ⟨w.heap.size, 0, 1⟩) (h.new .defr) (w.alloc (.deferred (some []))) := r.new .defr (by simp) _ 1 (heap_alloc_new w _)
        have k1 : Keep ι (upd ι h.next ⟨w.heap.size, 0, 1⟩) h (h.new .defr) w (w.alloc (.deferred (some []))) := .new r _ (by simp) _ _
        have hd1 : upd ι h.next ⟨w.heap.size, 0, 1⟩ h.next = some ⟨w.heap.size, 0, 1⟩ := upd_same _ _ _
        let ι2 : Io := upd (upd ι h.next ⟨w.heap.size, 0, 1⟩) (h.new .defr).next ⟨(w.alloc (.deferred (some []))).heap.size, 0, 1⟩
        have e12 : Ext (upd ι h.next ⟨w.heap.size, 0, 1⟩) ι2 := .upd _ (r1.fresh _ (Nat.le_refl _))
        let LO : Loop := { state := .ready, pending := none, fn, tmps := a.tmps, params := ps, assign := as, body := bd, defers := w.heap.size }
        have r2 : R ι2 ((h.new .defr).new (.loop .ready none n F ps.toList as bd h.next)) ((w.alloc (.deferred (some []))).alloc (.loop LO)) :=
          r1.new _ (by simp) _ 1 ⟨a.tmps, w.heap.size, fn, by rw [heap_alloc_new], hn, hf.mono (k1.ext.trans e12), ⟨w.heap.size, 0, 1⟩, e12 _ _ hd1, rfl⟩
        have k2 : Keep ι ι2 h ((h.new .defr).new (.loop .ready none n F ps.toList as bd h.next)) w ((w.alloc (.deferred (some []))).alloc (.loop LO)) := k1.trans (.new r1 _ (by simp) _ _)
        have hl2 : ι2 (h.next + 1) = some ⟨w.heap.size + 1, 0, 1⟩ := by
          have e1 : ι2 (h.new .defr).next = some ⟨(w.alloc (.deferred (some []))).heap.size, 0, 1⟩ := upd_same _ _ _
          have e2 : (w.alloc (.deferred (some []))).heap.size = w.heap.size + 1 := by simp
          rw [e2] at e1
          exact e1
        have hargs : VRs ι2 (first ++ [.func (.yield (h.next + 1)) [] []] ++ cap) (first'.toList ++ [.func (.yield (w.heap.size + 1)) #[] #[]] ++ cap'.toList) := by
          refine (VRs.append ?_ (.cons (.yield hl2) (.nil _))).append ?_
          · exact (VRs.mono (k2.ext) ⟨by simpa using q2, fun i a u h1 h2 => q4 i a u h1 (by simpa using h2)⟩)
          · exact (VRs.mono (k2.ext) ⟨by simpa using q3, fun i a u h1 h2 => q5 i a u h1 (by simpa using h2)⟩)
        have hcalls := hC.fn _ _ _ _ _ hcall ι2 _ _ r2 hargs
        refine ⟨w.heap.size + 1, [{ target := .collected w.heap.size, args := #[] }], (w.alloc (.deferred (some []))).alloc (.loop LO), { target := .fn (.func f) cap', args := first' ++ #[.func (.yield (w.heap.size + 1)) #[] #[]] }, (w.alloc (.deferred (some []))).alloc (.loop LO), f,
          (first'.toList ++ [Value.func (.yield (w.heap.size + 1)) #[] #[]] ++ cap'.toList).toArray, (w.alloc (.deferred (some []))).alloc (.loop LO), run_enterLoop_outer fn a.tmps ps as bd, ?_, fun _ _ => trivial, ?_, fun hh => by simp [Fence.wide] at hh, ?_⟩
        · have hc0 : ∀ v, a.eval (.const v) = v := fun _ => rfl
          simp [resolve, hcg, Deferred.ofValue, hc0]
        · have harr : (first'.toList ++ [Value.func (.yield (w.heap.size + 1)) #[] #[]] ++ cap'.toList).toArray = (first' ++ #[Value.func (.yield (w.heap.size + 1)) #[] #[]]) ++ cap' := by
            apply Array.ext'; simp
          rw [harr]
          show Sem.run P (callFunc f _) _ = _
          unfold okFn at hok
          split at hok
          · rename_i fnn hfn
            simp only [Bool.and_eq_true, Bool.not_eq_true'] at hok
            obtain ⟨m1, m2⟩ := hok
            simp [callFunc, hfn]
            simp only [beq_eq_false_iff_ne] at m1
            cases hb : fnn.body with
            | none => rw [hb] at m2; cases m2
            | some c => simp [m1]
          · cases hok
        · refine CallsIn.mono (callsIn_wide.2 hcalls) ?_
          intro e w3 hr
          cases e with
          | panicked c => exact hr.elim
          | outgrown => exact hr.elim
          | returned u =>
            obtain ⟨ι3, _, r3, k3⟩ := hr
            have hl3 : ι3 (h.next + 1) = some ⟨w.heap.size + 1, 0, 1⟩ := k3.ext _ _ hl2
            have hd3 : ι3 h.next = some ⟨w.heap.size, 0, 1⟩ := k3.ext _ _ (e12 _ _ hd1)
            have k := k2.trans k3
            have hdr : DRel ι3 (h.next :: ds) ([{ target := .collected w.heap.size, args := #[] }] ++ a.defers) := ⟨⟨_, hd3, rfl⟩, hd.mono k.ext⟩
            have fin : ∀ {st st' : LoopState} {pend pend' : Option Code} {n' fr' ps' as' bd' d'} {ex : Ex}, h2.obj (h.next + 1) = some (.loop st pend n' fr' ps' as' bd' d') → st ≠ .busy →
                (∀ a' w', Q ex.toExit a' w' → (match pend with | none => Q .normal a' w' | some c => c.wpIn Fence.wide nn P Q a' w')) →
                o = ⟨ex, F, h.next :: ds, h2.set (h.next + 1) (.loop .exhausted pend n' fr' ps' as' bd' d')⟩ →
                rangePost Fence.wide nn P (w.heap.size + 1) Q { a with defers := [{ target := .collected w.heap.size, args := #[] }] ++ a.defers } (.returned u) w3 := by
              intro st st' pend pend' n' fr' ps' as' bd' d' ex hob hst hj ho
              obtain ⟨tm, dd, ff, g1, g2, g3, q, g4, g5⟩ := r3.obj _ _ _ hob hl3
              refine ⟨pend, _, run_endLoop g1 hst, ?_⟩
              have hres := hQ ι3 { a with defers := [{ target := .collected w.heap.size, args := #[] }] ++ a.defers } (w3.putObj (w.heap.size + 1) _)
                (by rw [ho]; exact ⟨hf.mono k.ext, hdr, r3.setObj hob hl3 (by simp) (fun w' hw' => ⟨tm, dd, ff, hw', g2, g3, q, g4, g5⟩), k.trans (.setObj r3 hob hl3 (by simp)), hn⟩)
              rw [ho] at hres
              exact hj _ _ hres
            unfold endA at he
            split at he
            · cases he
            · rename_i st n' fr' ps' as' bd' d' hnb hob; cases he
              exact fin (st' := .ready) (pend' := none) (ex := .normal) hob hnb (fun _ _ h => h) rfl
            · rename_i st n' fr' ps' as' bd' d' hnb hob; cases he
              exact fin (st' := .ready) (pend' := none) (ex := .ret) hob hnb (fun _ _ h => wpIn_ret h) rfl
            · rename_i st id n' fr' ps' as' bd' d' hnb hob; cases he
              exact fin (st' := .ready) (pend' := none) (ex := .exit id) hob hnb (fun _ _ h => wpIn_exit h) rfl
            · cases he
      · cases he
    · cases he
  · cases he
theorem exec_sound (hX : ExtSound P X) (hC : CallSound P call) (hm : P.follows .mixedOrders = true) {inR : Bool} {ρ : Option Nat} (hρ : inR = false → ρ = none) : ∀ (c : Code) {Q : Exit → Act → World → Prop} {F : Fm} {ds : List Nat} {h : H} {o : Out},
    execC P X call L n inR c F ds h = some o → ∀ {ι : Io} {a : Act} {w : World}, FR ι F a.tmps → DRel ι ds a.defers → R ι h w → a.tmps.size = n →
    (∀ ι' a' w', Left n ι h w o ι' a' w' → Q o.ex.toExit a' w') → c.wpIn (Gf ρ) nn P Q a w := by
  intro c
  induction c with
  | skip => intro Q F ds h o he ι a w hf hd r hn hQ; cases he; exact wpIn_skip (hQ ι a w ⟨hf, hd, r, .refl _ _ _, hn⟩)
  | label l => intro Q F ds h o he ι a w hf hd r hn hQ; cases he; exact wpIn_label (hQ ι a w ⟨hf, hd, r, .refl _ _ _, hn⟩)
  | exit id => intro Q F ds h o he ι a w hf hd r hn hQ; cases he; exact wpIn_exit (hQ ι a w ⟨hf, hd, r, .refl _ _ _, hn⟩)
  | ret => intro Q F ds h o he ι a w hf hd r hn hQ; cases he; exact wpIn_ret (hQ ι a w ⟨hf, hd, r, .refl _ _ _, hn⟩)
  | goto l => intro Q F ds h o he; cases he
  | refuse s => intro Q F ds h o he; cases he
  | region id ops draw =>
    intro Q F ds h o he ι a w hf hd r hn hQ
    simp only [execC] at he
    split at he
    · rename_i F' h' hreg; cases he
      exact regA_sound hX hC hm hreg hf r hn fun ι' a' w' p => hQ ι' a' w' ⟨p.fr, by rw [p.defers]; exact hd.mono p.k.ext, p.r, p.k, p.size.trans hn⟩
    · cases he
  | seq x y ihx ihy =>
    intro Q F ds h o he ι a w hf hd r hn hQ
    simp only [execC] at he
    refine wpIn_seq ?_
    split at he
    · rename_i F' ds' h' hx
      exact ihx hx hf hd r hn fun ι' a' w' l => ihy he l.fr l.ds l.r l.tn fun ι'' a'' w'' l' => hQ _ _ _ ⟨l'.fr, l'.ds, l'.r, l.k.trans l'.k, l'.tn⟩
    · rename_i hno
      refine ihx he hf hd r hn fun ι' a' w' l => ?_
      have := hQ ι' a' w' l
      obtain ⟨ex, F', ds', h'⟩ := o
      cases ex with
      | normal => exact (hno _ _ _ he).elim
      | exit id => exact this
      | ret => exact this
  | cond c x y ihx ihy =>
    intro Q F ds h o he ι a w hf hd r hn hQ
    simp only [execC] at he
    split at he
    · rename_i hc
      have hv := hf.ev hc
      generalize hcv : a.eval c = cv at hv
      cases hv
      exact wpIn_cond_true hcv (ihx he hf hd r hn hQ)
    · rename_i hc
      have hv := hf.ev hc
      generalize hcv : a.eval c = cv at hv
      cases hv
      exact wpIn_cond_false hcv (ihy he hf hd r hn hQ)
    · cases he
  | block id b ih =>
    intro Q F ds h o he ι a w hf hd r hn hQ
    simp only [execC] at he
    refine wpIn_block ?_
    split at he
    · rename_i j F' ds' h' hb
      rw [Bool.cond_eq_ite] at he
      split at he
      · rename_i hj; cases he
        have hj' : j = id := by simpa using hj
        refine ih hb hf hd r hn fun ι' a' w' l => ?_
        have := hQ ι' a' w' ⟨l.fr, l.ds, l.r, l.k, l.tn⟩
        simp only [Ex.toExit, Exit.inBlock, hj', if_true] at this ⊢
        exact this
      · rename_i hj; cases he
        have hj' : j ≠ id := by simpa using hj
        refine ih hb hf hd r hn fun ι' a' w' l => ?_
        have := hQ ι' a' w' ⟨l.fr, l.ds, l.r, l.k, l.tn⟩
        simp only [Ex.toExit, Exit.inBlock, hj', if_false] at this ⊢
        exact this
    · rename_i hno
      refine ih he hf hd r hn fun ι' a' w' l => ?_
      have := hQ ι' a' w' l
      obtain ⟨ex, F', ds', h'⟩ := o
      cases ex with
      | normal => exact this
      | exit j => exact (hno _ _ _ _ he).elim
      | ret => exact this
  | loop b ih =>
    intro Q F ds h o he ι a w hf hd r hn hQ
    simp only [execC] at he
    refine wpIn_loop_count (fun k a' w' => ∃ F' ds' h' ι', loopA (execC P X call L n inR b) k F' ds' h' = some o ∧ FR ι' F' a'.tmps ∧ DRel ι' ds' a'.defers ∧ R ι' h' w' ∧ a'.tmps.size = n ∧ Keep ι ι' h h' w w') ?_
      (k := L) ⟨F, ds, h, ι, he, hf, hd, r, hn, .refl _ _ _⟩
    rintro k a' w' ⟨F', ds', h', ι', g1, g2, g3, g4, g5, g6⟩
    cases k with
    | zero => cases g1
    | succ k =>
      refine ⟨k, rfl, ?_⟩
      simp only [loopA] at g1
      split at g1
      · rename_i F1 ds1 h1 hb
        exact ih hb g2 g3 g4 g5 fun ι2 a2 w2 l => ⟨_, _, _, _, g1, l.fr, l.ds, l.r, l.tn, g6.trans l.k⟩
      · rename_i hno
        refine ih g1 g2 g3 g4 g5 fun ι2 a2 w2 l => ?_
        have := hQ ι2 a2 w2 ⟨l.fr, l.ds, l.r, g6.trans l.k, l.tn⟩
        obtain ⟨ex, F', ds', h'⟩ := o
        cases ex with
        | normal => exact (hno _ _ _ g1).elim
        | exit j => exact this
        | ret => exact this
  | scope b ih =>
    intro Q F ds h o he ι a w hf hd r hn hQ
    simp only [execC] at he
    cases inR with
    | true => cases he
    | false =>
      obtain rfl := hρ rfl
      simp only [cond_false] at he
      refine (wpIn_wide (n := nn)).2 (wp_scope_straight ((wpIn_wide (n := nn)).1 ?_))
      refine ih he hf hd r hn fun ι' a' w' l => ?_
      have := hQ ι' a' w' l
      obtain ⟨ex, F', ds', h'⟩ := o
      cases ex <;> exact this
  | rangeFunc g ps as bd _ _ =>
    intro Q F ds h o he ι a w hf hd r hn hQ
    cases inR with
    | true => cases he
    | false =>
      obtain rfl := hρ rfl
      exact rangeFunc_sound hC he hf hd r hn hQ
end Go.Abs
