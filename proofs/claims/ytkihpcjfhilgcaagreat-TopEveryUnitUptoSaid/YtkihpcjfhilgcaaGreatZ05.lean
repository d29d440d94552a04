/- All operations that write or call. No condition. -/
import Derived.Test.YtkihpcjfhilgcaaGreatZ04
namespace Go.Abs
inductive ER where
  | done (v : AV) (h : H)
  | call (f : FuncId) (args : List AV)
  | yield (l : Nat) (args : List AV)
abbrev Ext0 := FuncId → Option (List AV → H → Option (AV × H))
def okFn (P : Program) (f : FuncId) : Bool :=
  match P.funcs[f]? with
  | some fn => !(fn.name == "runtime.NumGoroutine") && fn.body.isSome
  | none => false
noncomputable def enterA (P : Program) (X : Ext0) (h : H) (f : FuncId) (args : List AV) : Option ER :=
  bif okFn P f then some (.call f args) else
    match X f with
    | some x => match x args h with
      | some (v, h') => some (.done v h')
      | none => none
    | none => none
def methA (P : Program) (t : TypeId) (name : String) : Option FuncId :=
  match P.info? t with
  | some i => match i.methods.find? (·.name == name) with
    | some m => match m.path.toList, m.func, P.underlying t with
      | [], some (f, true), some (.pointer _) => some f
      | [], some (_, false), some (.pointer _) => none
      | [], some (f, false), some _ => some f
      | _, _, _ => none
    | none => none
  | none => none
noncomputable def eop (P : Program) (X : Ext0) (F : Fm) (h : H) : Op → Option ER
  | .assign x => match ev F x with
    | some v => some (.done v h)
    | none => none
  | .store t a x => match ev F a, ev F x with
    | some (.ptr b o), some v => match storeA P h t b o v with
      | some h' => some (.done (.tup []) h')
      | none => none
    | _, _ => none
  | .mapUpdate t m k x => match ev F m, ev F k, ev F x with
    | some m, some k, some v => match mapUpdateA P h t m k v with
      | some h' => some (.done (.tup []) h')
      | none => none
    | _, _, _ => none
  | .range t x => match ev F x with
    | some m => match rangeA P h t m with
      | some (v, h') => some (.done v h')
      | none => none
    | none => none
  | .next x false => match ev F x with
    | some m => match nextA h m with
      | some (v, h') => some (.done v h')
      | none => none
    | none => none
  | .call c => match c.callee with
    | .builtin .append => match evs F c.args.toList, c.argTypes.toList with
      | some [s, x], [t, tx] => match appendA P h [t, tx] s x with
        | some (v, h') => some (.done v h')
        | none => none
      | _, _ => none
    | .builtin .copy => match evs F c.args.toList, c.argTypes.toList with
      | some [s, x], [t, tx] => match copyA P h [t, tx] s x with
        | some (v, h') => some (.done v h')
        | none => none
      | _, _ => none
    | .builtin .delete => match evs F c.args.toList, c.argTypes.toList with
      | some [m, k], [t, _] => match deleteA P h t m k with
        | some h' => some (.done (.tup []) h')
        | none => none
      | _, _ => none
    | .value f => match ev F f, evs F c.args.toList with
      | some (.func (.func g) first cap), some as => enterA P X h g (first ++ as ++ cap)
      | some (.func (.yield l) [] []), some as => some (.yield l as)
      | _, _ => none
    | .invoke x name => match ev F x, evs F c.args.toList with
      | some (.iface t v), some as => match methA P t name with
        | some f => enterA P X h f (v :: as)
        | none => none
      | _, _ => none
    | _ => none
  | _ => none
variable {P : Program} {X : Ext0} {ι : Io} {F F' : Fm} {a : Act}
def ExtSound (P : Program) (X : Ext0) : Prop :=
  ∀ f x args h v h', X f = some x → x args h = some (v, h') → ∀ ι w us, R ι h w → VRs ι args us →
    ∃ (ι' : Io) (u : Value) (w' : World), VR ι' v u ∧ R ι' h' w' ∧ Keep ι ι' h h' w w' ∧ (callFunc f us.toArray).run P w = .ok (.value u) w'
def ERSound (P : Program) (s : Sem Next) (ι : Io) (h : H) (w : World) : ER → Prop
  | .done v h' => ESound P s ι h w v h'
  | .call f args => ∃ us : List Value, VRs ι args us ∧ s.run P w = .ok (.enter f us.toArray) w
  | .yield l args => ∃ (us : List Value) (p : Pl), VRs ι args us ∧ ι l = some p ∧ s.run P w = (Instr.yield p.blk us.toArray).run P w
theorem enterA_spec (hX : ExtSound P X) {h : H} {w : World} (r : R ι h w) {f : FuncId} {args : List AV} {us : List Value} {e : ER} (he : enterA P X h f args = some e) (hv : VRs ι args us)
    {s : Sem Next} (hs : s.run P w = (callFunc f us.toArray).run P w) : ERSound P s ι h w e := by
  unfold enterA at he
  rw [Bool.cond_eq_ite] at he
  split at he
  · rename_i hok; cases he
    refine ⟨us, hv, hs.trans ?_⟩
    unfold okFn at hok
    split at hok
    · rename_i fn hfn
      simp only [Bool.and_eq_true, Bool.not_eq_true'] at hok
      obtain ⟨h1, h2⟩ := hok
      simp [callFunc, hfn]
      simp only [beq_eq_false_iff_ne] at h1
      cases hb : fn.body with
      | none => rw [hb] at h2; cases h2
      | some c => simp [h1]
    · cases hok
  · split at he
    · rename_i x hx
      split at he
      · rename_i v h' hxa; cases he
        obtain ⟨ι', u, w', g1, g2, g3, g4⟩ := hX _ _ _ _ _ _ hx hxa ι w us r hv
        exact ⟨ι', u, w', g1, g2, g3, .inl (hs.trans g4)⟩
      · cases he
    · cases he
theorem methA_spec {t : TypeId} {name : String} {f : FuncId} (h : methA P t name = some f) (w : World) (v : Value) (n : Nat) : (method (n + 1) t v name).run P w = .ok (f, v) w := by
  unfold methA at h
  split at h
  · rename_i i hi
    split at h
    · rename_i m hm
      have key : ∀ f', m.path.toList = [] → (∃ b d, m.func = some (f', b) ∧ P.underlying t = some d ∧ ((∃ e, d = .pointer e) ↔ b = true)) → (method (n + 1) t v name).run P w = .ok (f', v) w := by
        rintro f' hpath ⟨b, d, hfun, hu, hb⟩
        have hpe : m.path.isEmpty = true := by rw [← Array.isEmpty_toList, hpath]; rfl
        unfold method
        simp only [Sem.run_bind, run_typeInfo _ hi, Result.andThen_ok]
        rw [hm]
        simp only [Sem.run_bind, hpath, follow, Sem.run_pure, Result.andThen_ok, hfun, hpe, if_true]
        unfold receiverAt
        simp only [Sem.run_bind, run_underlying hu, Result.andThen_ok]
        cases b with
        | true =>
          obtain ⟨e, rfl⟩ := hb.2 rfl
          simp [Place.get]
        | false =>
          have hnp : ∀ e, d ≠ .pointer e := fun e he => by have := hb.1 ⟨e, he⟩; cases this
          cases d <;> simp [Place.get] <;> exact absurd rfl (hnp _)
      split at h
      · rename_i f' e hpath hfun hu; cases h; exact key _ hpath ⟨_, _, hfun, hu, by simp⟩
      · cases h
      · rename_i f' d hnp hpath hfun hu; cases h
        refine key _ hpath ⟨_, _, hfun, hu, ?_⟩
        constructor
        · rintro ⟨e, rfl⟩; exact (hnp e rfl).elim
        · intro hh; cases hh
      · cases h
    · cases h
  · cases h
theorem vrs_two {x y : AV} {us : List Value} (h : VRs ι [x, y] us) : ∃ u v, us = [u, v] ∧ VR ι x u ∧ VR ι y v := by
  obtain ⟨u, us', rfl, h1, h2⟩ := h.head
  obtain ⟨v, us'', rfl, h3, h4⟩ := h2.head
  obtain rfl := h4.isNil
  exact ⟨u, v, rfl, h1, h3⟩
theorem args_two {c : Call} {x y : AV} (h : VRs ι [x, y] (c.args.toList.map a.eval)) : ∃ u v, c.args.map a.eval = #[u, v] ∧ VR ι x u ∧ VR ι y v := by
  obtain ⟨u, v, h1, h2, h3⟩ := vrs_two h
  exact ⟨u, v, by apply Array.ext'; simpa using h1, h2, h3⟩
theorem types_two {c : Call} {t tx : TypeId} (h : c.argTypes.toList = [t, tx]) : c.argTypes = #[t, tx] := by apply Array.ext'; simpa using h
set_option maxHeartbeats 1000000 in
theorem eop_sound (hX : ExtSound P X) (o : Oper) (hf : FR ι F a.tmps) {h : H} {w : World} (r : R ι h w) {e : ER} (he : eop P X F h o.op = some e) : ERSound P (execOp a.eval o) ι h w e := by
  obtain ⟨dst, op, type, pos, after, guard⟩ := o
  cases op <;> simp only [eop] at he <;> try (cases he; done)
  case assign x =>
    split at he
    · rename_i v hx; cases he
      exact ⟨ι, a.eval x, w, hf.ev hx, r, .refl _ _ _, .inl (by simp [execOp])⟩
    · cases he
  case store t ad x =>
    split at he
    · rename_i b o v ha hx
      split at he
      · rename_i h' hs; cases he
        have hva := hf.ev ha
        generalize hca : a.eval ad = ca at hva
        cases hva with | ptr hp => ?_
        obtain ⟨w', g1, g2, g3⟩ := storeA_spec r hs hp (hf.ev hx)
        exact ⟨ι, undef, w', undef_vr ι, g2, g3, .inr ⟨by simp [execOp, hca, Instr.storeAt, Instr.sureAddr, g1], rfl⟩⟩
      · cases he
    · cases he
  case mapUpdate t m k x =>
    split at he
    · rename_i mv kv v hm hk hx
      split at he
      · rename_i h' hs; cases he
        obtain ⟨w', g1, g2, g3⟩ := mapUpdateA_spec r hs (hf.ev hm) (hf.ev hk) (hf.ev hx)
        exact ⟨ι, undef, w', undef_vr ι, g2, g3, .inr ⟨by simp [execOp, g1], rfl⟩⟩
      · cases he
    · cases he
  case range t x =>
    split at he
    · rename_i m hm
      split at he
      · rename_i v h' hs; cases he
        obtain ⟨ι', u, w', g1, g2, g3, g4⟩ := rangeA_spec r hs (hf.ev hm)
        exact ⟨ι', u, w', g1, g2, g3, .inl (by simp [execOp, g4])⟩
      · cases he
    · cases he
  case next x b =>
    cases b <;> simp only [] at he
    · split at he
      · rename_i m hm
        split at he
        · rename_i v h' hs; cases he
          obtain ⟨u, w', g1, g2, g3, g4⟩ := nextA_spec (P := P) r hs (hf.ev hm) type
          exact ⟨ι, u, w', g1, g2, g3, .inl (by simp [execOp, g4])⟩
        · cases he
      · cases he
    · cases he
  case call c =>
    split at he
    · rename_i hc
      split at he
      · rename_i s x t tx hargs hts
        split at he
        · rename_i v h' hs; cases he
          obtain ⟨u, v', h1, h2, h3⟩ := args_two (hf.evs hargs)
          obtain ⟨ι', ur, w', g1, g2, g3, g4⟩ := appendA_spec (ty := type) r hs h2 h3
          exact ⟨ι', ur, w', g1, g2, g3, .inl (by simp [execOp, resolve, hc, h1, types_two hts, invoke, builtin, g4])⟩
        · cases he
      · cases he
    · rename_i hc
      split at he
      · rename_i s x t tx hargs hts
        split at he
        · rename_i v h' hs; cases he
          obtain ⟨u, v', h1, h2, h3⟩ := args_two (hf.evs hargs)
          obtain ⟨ur, w', g1, g2, g3, g4⟩ := copyA_spec (ty := type) r hs h2 h3
          exact ⟨ι, _, _, g1, g2, g3, .inl (by simp [execOp, resolve, hc, h1, types_two hts, invoke, builtin, g4])⟩
        · cases he
      · cases he
    · rename_i hc
      split at he
      · rename_i m k t tk hargs hts
        split at he
        · rename_i h' hs; cases he
          obtain ⟨u, v', h1, h2, h3⟩ := args_two (hf.evs hargs)
          obtain ⟨w', g1, g2, g3⟩ := deleteA_spec (tk := tk) (ty := type) r hs h2 h3
          exact ⟨ι, undef, w', undef_vr ι, g2, g3, .inl (by simp [execOp, resolve, hc, h1, types_two hts, invoke, builtin, g1, undef])⟩
        · cases he
      · cases he
    · rename_i f hc
      split at he
      · rename_i g first cap as hfv hargs
        have hv := hf.ev hfv
        have hvs := hf.evs hargs
        generalize hcf : a.eval f = cf at hv
        cases hv with | func q1 q2 q3 q4 q5 => ?_
        rename_i first' cap'
        refine enterA_spec hX r he (us := first'.toList ++ c.args.toList.map a.eval ++ cap'.toList) (((VRs.append ⟨by simpa using q2, fun i a u h1 h2 => q4 i a u h1 (by simpa using h2)⟩ hvs).append ⟨by simpa using q3, fun i a u h1 h2 => q5 i a u h1 (by simpa using h2)⟩)) ?_
        have : (first'.toList ++ c.args.toList.map a.eval ++ cap'.toList).toArray = first' ++ c.args.map a.eval ++ cap' := by
          apply Array.ext'; simp
        rw [this]; simp [execOp, resolve, hc, hcf, Deferred.ofValue, invoke, Array.append_assoc]
      · rename_i l as hfv hargs; cases he
        have hv := hf.ev hfv
        have hvs := hf.evs hargs
        generalize hcf : a.eval f = cf at hv
        cases hv with
        | func q1 => cases q1
        | yield hp =>
          rename_i p
          refine ⟨_, p, hvs, hp, ?_⟩
          have : (c.args.toList.map a.eval).toArray = c.args.map a.eval := by apply Array.ext'; simp
          simp [execOp, resolve, hc, hcf, Deferred.ofValue, invoke, this]
      · cases he
    · rename_i x name hc
      split at he
      · rename_i t v as hx hargs
        split at he
        · rename_i f hm
          have hv := hf.ev hx
          have hvs := hf.evs hargs
          generalize hcf : a.eval x = cf at hv
          cases hv with | iface hvv => ?_
          rename_i u
          refine enterA_spec hX r he (us := u :: c.args.toList.map a.eval) (.cons hvv hvs) ?_
          have h1 : (#[u] ++ c.args.map a.eval : Array Value) = (u :: c.args.toList.map a.eval).toArray := by apply Array.ext'; simp
          have h2 : ∀ y : Value, (#[y] ++ c.args.map a.eval).extract 1 (#[y] ++ c.args.map a.eval).size = c.args.map a.eval := by
            intro y; apply Array.ext'; simp [List.take_of_length_le]
          have h3 := methA_spec hm w u (P.types.size + (Made.depth - 1))
          have h4 : P.types.size + (Made.depth - 1) + 1 = P.types.size + Made.depth := rfl
          rw [h4] at h3
          have h5 : (#[Value.iface t u] ++ c.args.map a.eval)[0]? = some (.iface t u) := by rw [Array.getElem?_append_left (by simp)]; rfl
          simp only [execOp, Sem.run_bind, resolve, hc, hcf, Sem.run_pure, Result.andThen_ok, invoke]
          rw [h5]
          show Sem.run P (callMethod (Value.iface t u) name ((#[Value.iface t u] ++ c.args.map a.eval).extract 1 (#[Value.iface t u] ++ c.args.map a.eval).size)) w = _
          rw [h2]
          simp only [callMethod, Sem.run_bind]
          have h6 : Sem.run P program w = .ok P w := rfl
          rw [h6, Result.andThen_ok, h3, Result.andThen_ok]
          show Sem.run P (callFunc f (#[u] ++ c.args.map a.eval)) w = _
          rw [h1]
        · cases he
      · cases he
    · cases he
end Go.Abs

/- Reads joined; what they owe to the heap; effects look at their operands alone. No condition. -/
namespace Go.Abs
variable {P : Program} {X : Ext0} {ι : Io} {F F' : Fm} {a : Act}
theorem eop_congr {hh : H} {op : Op} (h : ∀ x ∈ op.operands.toList, ev F x = ev F' x) : eop P X F hh op = eop P X F' hh op := by
  cases op
  case call c =>
    have h1 : evs F c.args.toList = evs F' c.args.toList := evs_congr fun x hx => h x (by
      simp only [Op.operands, Call.operands]
      cases c.callee <;> simp at hx ⊢ <;> first | exact .inr hx | exact hx)
    simp only [eop]; rw [h1]
    cases hc : c.callee with
    | builtin b => cases b <;> rfl
    | value f => simp only []; rw [h f (by simp [Op.operands, Call.operands, hc])]
    | invoke f n => simp only []; rw [h f (by simp [Op.operands, Call.operands, hc])]
  case next x b => cases b <;> simp [Op.operands] at h <;> simp only [eop, h]
  all_goals first
    | rfl
    | (simp [Op.operands] at h; simp only [eop]; simp only [h])
noncomputable def rop (P : Program) (F : Fm) (h : H) : Op → Option AV
  | .load t x => match ev F x with
    | some (.ptr b o) => loadA P h t b o
    | _ => none
  | op => dop P F h op
theorem rop_congr {hh : H} {op : Op} (h : ∀ x ∈ op.operands.toList, ev F x = ev F' x) : rop P F hh op = rop P F' hh op := by
  by_cases hl : ∃ t x, op = .load t x
  · obtain ⟨t, x, rfl⟩ := hl
    simp [Op.operands] at h; simp only [rop]; rw [h]
  · have h1 : ∀ F, rop P F hh op = dop P F hh op := fun F => by cases op <;> first | rfl | exact absurd ⟨_, _, rfl⟩ hl
    rw [h1, h1]; exact dop_congr h
theorem rop_sound (o : Oper) (hf : FR ι F a.tmps) {h : H} {w : World} (r : R ι h w) {v : AV} (hd : rop P F h o.op = some v) : ∃ u, VR ι v u ∧ (execOp a.eval o).run P w = .ok (.value u) w := by
  by_cases hl : ∃ t x, o.op = .load t x
  · obtain ⟨dst, op, type, pos, after, guard⟩ := o
    obtain ⟨t, x, rfl⟩ := hl
    simp only [rop] at hd
    split at hd
    · rename_i b off hx
      have hv := hf.ev hx
      generalize hca : a.eval x = ca at hv
      cases hv with | ptr hp => ?_
      obtain ⟨u, g1, g2⟩ := loadA_spec r hd hp
      exact ⟨u, g1, by simp [execOp, hca, Instr.loadAt, Instr.sureAddr, g2]⟩
    · cases hd
  · refine dop_sound o hf r ?_
    rw [← hd]
    cases ho : o.op <;> first | rfl | exact absurd ⟨_, _, ho⟩ hl
def HExt (h h' : H) : Prop := ∀ b o, h.obj b = some o → h'.obj b = some o
theorem HExt.refl (h : H) : HExt h h := fun _ _ h => h
theorem HExt.trans {h h' h'' : H} (a : HExt h h') (b : HExt h' h'') : HExt h h'' := fun x o e => b x o (a x o e)
theorem entsA_mono {h h' : H} (he : HExt h h') {m : AV} {es : List Ent} (hs : entsA h m = some es) : entsA h' m = some es := by
  unfold entsA at *
  split at hs
  · exact hs
  · split at hs
    · rename_i hb; simp only [he _ _ hb]; exact hs
    · cases hs
  · cases hs
theorem loadA_mono {h h' : H} (he : HExt h h') {t : TypeId} {b o : Nat} {v : AV} (hs : loadA P h t b o = some v) : loadA P h' t b o = some v := by
  unfold loadA at *
  split at hs
  · rename_i n c hb; rw [he _ _ hb]; exact hs
  · rename_i c hb; rw [he _ _ hb]; exact hs
  · cases hs
theorem dop_mono {h h' : H} (he : HExt h h') {op : Op} {v : AV} (hs : dop P F h op = some v) : dop P F h' op = some v := by
  cases op <;> simp only [dop] at hs ⊢ <;> try (cases hs; done)
  case convert src dst x =>
    split at hs
    · rename_i e p hs1 hs2 hs3
      try simp only [hs1, hs2, hs3]
      split at hs
      · rename_i h1 h2
        try simp only [h1, h2]
        split at hs
        · exact hs
        · rw [Bool.cond_eq_ite] at hs ⊢
          split at hs
          · rename_i hc
            rw [if_pos hc]
            split at hs
            · rename_i hb; rw [he _ _ hb]; exact hs
            · rename_i hb; rw [he _ _ hb]; exact hs
            · cases hs
          · rename_i hc; rw [if_neg hc]; exact hs
        · cases hs
      · cases hs
    · cases hs
  case lookup t x i ok =>
    split at hs
    · rename_i kt e m k h1 h2 h3
      try simp only [h1, h2, h3]
      split at hs
      · rename_i d hd
        try simp only [hd]
        rw [Bool.cond_eq_ite] at hs ⊢
        split at hs
        · rename_i hc
          rw [if_pos hc]
          split at hs
          · rename_i es hes; rw [entsA_mono he hes]; exact hs
          · cases hs
        · cases hs
      · cases hs
    · cases hs
  case entry x =>
    split at hs
    · rename_i r hx
      try simp only [hx]
      split at hs
      · rename_i m s seen stepped hb
        rw [he _ _ hb]
        simp only
        split at hs
        · rename_i stamp es clock h1 h2
          rw [h1, he _ _ h2]; exact hs
        · cases hs
      · cases hs
    · cases hs
  case call c =>
    split at hs
    · rename_i hc
      try simp only [hc]
      split at hs
      · rename_i r t h1 h2
        try simp only [h1, h2]
        split at hs
        · rename_i k e es cl h3 h4
          rw [h3, he _ _ h4]; exact hs
        · cases hs
      · cases hs
    · cases hs
theorem rop_mono {h h' : H} (he : HExt h h') {op : Op} {v : AV} (hs : rop P F h op = some v) : rop P F h' op = some v := by
  by_cases hl : ∃ t x, op = .load t x
  · obtain ⟨t, x, rfl⟩ := hl
    simp only [rop] at hs ⊢
    split at hs
    · rename_i b o hx; exact loadA_mono he hs
    · cases hs
  · have h1 : ∀ h, rop P F h op = dop P F h op := fun h => by cases op <;> first | rfl | exact absurd ⟨_, _, rfl⟩ hl
    rw [h1] at hs ⊢; exact dop_mono he hs
def AV.same0 : AV → AV → Bool
  | .bool a, .bool b => a == b
  | .int k m, .int l n => (match decEq k l with | .isTrue _ => true | .isFalse _ => false) && (match decEq m n with | .isTrue _ => true | .isFalse _ => false)
  | .ptr a b, .ptr c d => Nat.beq a c && Nat.beq b d
  | .pnil, .pnil => true
  | .slice a b c d e f, .slice a' b' c' d' e' f' => Nat.beq a a' && Nat.beq b b' && Nat.beq c c' && Nat.beq d d' && Nat.beq e e' && f == f'
  | .snil, .snil => true
  | .map a, .map b => Nat.beq a b
  | .mnil, .mnil => true
  | .func (.func f) [] [], .func (.func g) [] [] => Nat.beq f g
  | .fnil, .fnil => true
  | .inil, .inil => true
  | _, _ => false
theorem AV.same0_eq {x y : AV} (h : x.same0 y = true) : x = y := by
  unfold AV.same0 at h
  split at h
  · simp at h; rw [h]
  · simp only [Bool.and_eq_true] at h
    obtain ⟨h1, h2⟩ := h
    split at h1
    · rename_i e _; subst e
      split at h2
      · rename_i e _; subst e; rfl
      · cases h2
    · cases h1
  all_goals first
    | rfl
    | (simp at h; done)
    | (simp only [Bool.and_eq_true, Nat.beq_eq] at h; obtain ⟨rfl, rfl⟩ := h; rfl)
    | (have h' := Nat.eq_of_beq_eq_true h; subst h'; rfl)
    | (simp only [Bool.and_eq_true, Nat.beq_eq] at h; simp at h; simp [h])
def sameL : List AV → List AV → Bool
  | [], [] => true
  | x :: a, y :: b => x.same0 y && sameL a b
  | _, _ => false
theorem sameL_eq : ∀ {a b : List AV}, sameL a b = true → a = b
  | [], [], _ => rfl
  | x :: a, y :: b, h => by
    simp only [sameL, Bool.and_eq_true] at h
    rw [AV.same0_eq h.1, sameL_eq h.2]
  | [], _ :: _, h => by cases h
  | _ :: _, [], h => by cases h
def AV.same : AV → AV → Bool
  | .agg a, .agg b => sameL a b
  | .iface t a, .iface u b => Nat.beq t u && a.same0 b
  | a, b => a.same0 b
theorem AV.same_eq {x y : AV} (h : x.same y = true) : x = y := by
  unfold AV.same at h
  split at h
  · rw [sameL_eq h]
  · simp only [Bool.and_eq_true] at h
    rw [Nat.eq_of_beq_eq_true h.1, AV.same0_eq h.2]
  · exact AV.same0_eq h
end Go.Abs

/- Plans for regions: in which order the operations are looked at, and what is checked of the order. No condition. -/
namespace Go.Abs
inductive PS where
  | p (i : Nat)
  | r (i : Nat)
  | e (i : Nat) (chk : List Nat)
def PS.idx : PS → Nat
  | .p i => i
  | .r i => i
  | .e i _ => i
noncomputable def wantA (F : Fm) (ops : Array Oper) (o : Oper) : Option Bool :=
  match o.guard with
  | none => some true
  | some (j, b) => match ops[j]? with
    | some oj => match oj.dst with
      | some t => match F.at t with
        | some (.bool c) => some (c == b)
        | some (.tup _) => some false
        | _ => none
      | none => none
    | none => none
noncomputable def putD (F : Fm) (d : Option Tmp) (v : AV) : Fm :=
  match d with
  | some t => F.put t v
  | none => F
inductive Tgt where
  | fn (f : FuncId)
  | yield (l : Nat)
abbrev CallA := Tgt → List AV → H → Option (AV × H)
noncomputable def effA (P : Program) (X : Ext0) (call : CallA) (F : Fm) (h : H) (op : Op) : Option (AV × H) :=
  match eop P X F h op with
  | some (.done v h') => some (v, h')
  | some (.call f as) => call (.fn f) as h
  | some (.yield l as) => call (.yield l) as h
  | none => none
noncomputable def chkR (P : Program) (F : Fm) (h : H) (ops : Array Oper) (r : Nat) : Bool :=
  match ops[r]? with
  | some o => match wantA F ops o with
    | some false => true
    | some true => match o.dst with
      | some t => match rop P F h o.op, F.at t with
        | some v, some v' => v.same v'
        | _, _ => false
      | none => false
    | none => false
  | none => false
noncomputable def stepP0 (P : Program) (X : Ext0) (call : CallA) (ops : Array Oper) (s : PS) (F : Fm) (h : H) : Option (Fm × H) :=
  match s with
  | .p i => match ops[i]? with
    | some o => match wantA F ops o with
      | some true => match pop P F o.op with
        | some (.val v) => some (putD F o.dst v, h)
        | some (.new ob k) => some (putD F o.dst (k.val h.next), h.new ob)
        | none => none
      | some false => some (putD F o.dst (.tup []), h)
      | none => none
    | none => none
  | .r i => match ops[i]? with
    | some o => match wantA F ops o with
      | some true => match rop P F h o.op with
        | some v => some (putD F o.dst v, h)
        | none => none
      | some false => some (putD F o.dst (.tup []), h)
      | none => none
    | none => none
  | .e i chk => match ops[i]? with
    | some o => match wantA F ops o with
      | some true => match effA P X call F h o.op with
        | some (v, h') => bif chk.all (chkR P (putD F o.dst v) h' ops) then some (putD F o.dst v, h') else none
        | none => none
      | some false => bif chk.all (chkR P (putD F o.dst (.tup [])) h ops) then some (putD F o.dst (.tup []), h) else none
      | none => none
    | none => none
noncomputable def putDK {β : Type} (F : Fm) (d : Option Tmp) (v : AV) (k : Fm → β) : β :=
  match d with
  | some t => F.putK t v k
  | none => k F
theorem putDK_eq {β : Type} (F : Fm) (d : Option Tmp) (v : AV) (k : Fm → β) : putDK F d v k = k (putD F d v) := by
  cases d with
  | none => rfl
  | some t => exact Tr.putK_eq _ _ _ _
noncomputable def stepP (P : Program) (X : Ext0) (call : CallA) (ops : Array Oper) (s : PS) (F : Fm) (h : H) : Option (Fm × H) :=
  match s with
  | .p i => match ops[i]? with
    | some o => match wantA F ops o with
      | some true => match pop P F o.op with
        | some (.val v) => forceV v fun v => putDK F o.dst v fun F' => some (F', h)
        | some (.new ob k) => forceV (k.val h.next) fun v => putDK F o.dst v fun F' => h.newK ob fun h' => some (F', h')
        | none => none
      | some false => putDK F o.dst (.tup []) fun F' => some (F', h)
      | none => none
    | none => none
  | .r i => match ops[i]? with
    | some o => match wantA F ops o with
      | some true => match rop P F h o.op with
        | some v => forceV v fun v => putDK F o.dst v fun F' => some (F', h)
        | none => none
      | some false => putDK F o.dst (.tup []) fun F' => some (F', h)
      | none => none
    | none => none
  | .e i chk => match ops[i]? with
    | some o => match wantA F ops o with
      | some true => match effA P X call F h o.op with
        | some (v, h') => forceV v fun v => putDK F o.dst v fun F' => bif chk.all (chkR P F' h' ops) then some (F', h') else none
        | none => none
      | some false => putDK F o.dst (.tup []) fun F' => bif chk.all (chkR P F' h ops) then some (F', h) else none
      | none => none
    | none => none
theorem stepP_eq (P : Program) (X : Ext0) (call : CallA) (ops : Array Oper) (s : PS) (F : Fm) (h : H) : stepP P X call ops s F h = stepP0 P X call ops s F h := by
  cases s <;> simp only [stepP, stepP0, forceV_eq, putDK_eq, H.newK_eq]
noncomputable def runP (P : Program) (X : Ext0) (call : CallA) (ops : Array Oper) : List PS → Fm → H → Option (Fm × H)
  | [], F, h => some (F, h)
  | s :: rest, F, h => match stepP P X call ops s F h with
    | some (F', h') => runP P X call ops rest F' h'
    | none => none
def bit (m k : Nat) : Bool := Nat.testBit m k
def maskAt (i : Nat) : List (Nat × Nat) → Option Nat
  | [] => none
  | (j, m) :: r => bif Nat.beq i j then some m else maskAt i r
def maskOf (T : List (Nat × Nat)) : List Edge → Option Nat
  | [] => some 0
  | e :: r => bif Region.binds .any e then
      match maskAt e.on T, maskOf T r with
      | some m, some k => some (Nat.lor (Nat.lor m (Nat.pow 2 e.on)) k)
      | _, _ => none
    else maskOf T r
def isDst (o : Oper) (t : Nat) : Bool :=
  match o.dst with
  | some d => Nat.beq d t
  | none => false
def dstOk (ops : Array Oper) (n : Nat) (D : List Nat) (o : Oper) : Bool :=
  match o.dst with
  | none => true
  | some t => Nat.blt t n && !memN t (o.looksAt ops) && D.all fun j => match ops[j]? with
    | some oj => !isDst oj t && !memN t (oj.looksAt ops)
    | none => false
def dstOkE (ops : Array Oper) (n : Nat) (D : List Nat) (m : Nat) (o : Oper) : Bool :=
  match o.dst with
  | none => true
  | some t => Nat.blt t n && !memN t (o.looksAt ops) && D.all fun j => bit m j || match ops[j]? with
    | some oj => !isDst oj t && !memN t (oj.looksAt ops)
    | none => false
def looksOk (ops : Array Oper) (D : List Nat) (m : Nat) (o : Oper) : Bool :=
  D.all fun j => match ops[j]? with
    | some oj => match oj.dst with
      | some t => !memN t (o.looksAt ops) || bit m j
      | none => true
    | none => false
def noSel : Op → Bool
  | .select _ _ => false
  | .defer _ => false
  | _ => true
def chkPlan (ops : Array Oper) (n : Nat) (W : List Nat) : List Nat → List Nat → List Nat → List (Nat × Nat) → List PS → Bool
  | D, _, _, _, [] => (List.range ops.size).all fun i => memN i D
  | D, reads, es, T, s :: rest => match ops[s.idx]? with
    | none => false
    | some o => match maskOf T o.after.toList with
      | none => false
      | some m => !memN s.idx D && looksOk ops D m o && es.all (bit m) && (match s with
          | .p _ => !memN s.idx W && dstOk ops n D o && chkPlan ops n W (s.idx :: D) reads es ((s.idx, m) :: T) rest
          | .r _ => !memN s.idx W && dstOk ops n D o && chkPlan ops n W (s.idx :: D) (s.idx :: reads) es ((s.idx, m) :: T) rest
          | .e _ chk => memN s.idx W && dstOkE ops n D m o && reads.all (fun r => bit m r || memN r chk) && chkPlan ops n W (s.idx :: D) reads (s.idx :: es) ((s.idx, m) :: T) rest)
def kindA (P : Program) : Op → Nat
  | .load .. => 1
  | .lookup .. => 1
  | .entry _ => 1
  | .convert src _ _ => match P.underlying src with
    | some (.slice _) => 1
    | _ => 0
  | .store .. => 2
  | .mapUpdate .. => 2
  | .insert .. => 2
  | .next .. => 2
  | .range .. => 2
  | .call c => match c.callee with
    | .builtin .len => match c.argTypes[0]? with
      | some t => match P.underlying t with
        | some (.map _ _) => 1
        | _ => 0
      | none => 0
    | .builtin .cap => 0
    | .builtin .min => 0
    | .builtin .max => 0
    | _ => 2
  | _ => 0
def kindB (P : Program) (ops : Array Oper) (i : Nat) (o : Oper) : Nat :=
  match o.op with
  | .assign _ => (match o.dst with
    | some t => bif (List.range i).any (fun j => match ops[j]? with
        | some oj => isDst oj t || memN t (oj.looksAt ops)
        | none => false) then 2 else 0
    | none => 0)
  | op => kindA P op
def psOf (k i : Nat) (chk : List Nat) : PS :=
  match k with
  | 0 => .p i
  | 1 => .r i
  | _ => .e i chk
def seqPlan (P : Program) : List Oper → Nat → List PS
  | [], _ => []
  | o :: r, i => psOf (kindA P o.op) i [] :: seqPlan P r (i + 1)
structure Row4 where
  i : Nat
  k : Nat
  m : Nat
def rowsA (P : Program) (ops : Array Oper) : List Oper → Nat → List (Nat × Nat) → List Row4
  | [], _, _ => []
  | o :: r, i, T => match maskOf T o.after.toList with
    | some m => ⟨i, kindB P ops i o, m⟩ :: rowsA P ops r (i + 1) ((i, m) :: T)
    | none => []
def countE (es : List Nat) (m : Nat) : Nat :=
  match es with
  | [] => 0
  | e :: r => (bif bit m e then 1 else 0) + countE r m
def insE (es : List Nat) (r : Row4) : List Row4 → List Row4
  | [] => [r]
  | x :: xs => bif Nat.ble (countE es r.m) (countE es x.m) then r :: x :: xs else x :: insE es r xs
def segA (rows : List Row4) (es : List Nat) : List Row4 → Nat → List PS
  | [], k => (rows.filter fun r => Nat.blt r.k 2 && Nat.beq (countE es r.m) k).map fun r => psOf r.k r.i []
  | e :: rest, k => ((rows.filter fun r => Nat.blt r.k 2 && Nat.beq (countE es r.m) k).map fun r => psOf r.k r.i []) ++
      .e e.i ((rows.filter fun r => Nat.beq r.k 1 && Nat.ble (countE es r.m) k && !bit e.m r.i).map fun r => r.i) :: segA rows es rest (k + 1)
def mkPlan (P : Program) (ops : Array Oper) : List PS :=
  let rows := rowsA P ops ops.toList 0 []
  let es := (rows.filter fun r => Nat.beq r.k 2).map fun r => r.i
  segA rows es ((rows.filter fun r => Nat.beq r.k 2).foldr (insE es) []) 0
def dstsOk (n : Nat) (ops : List Oper) : Bool := ops.all fun o => match o.dst with
  | some t => Nat.blt t n
  | none => true
def wOf : List PS → List Nat
  | [] => []
  | .e i _ :: r => i :: wOf r
  | _ :: r => wOf r
noncomputable def regA (P : Program) (X : Ext0) (call : CallA) (n : Nat) (ops : Array Oper) (draw : Bool) (F : Fm) (h : H) : Option (Fm × H) :=
  bif draw then
    bif chkPlan ops n (wOf (mkPlan P ops)) [] [] [] [] (mkPlan P ops) then runP P X call ops (mkPlan P ops) F h else none
  else
    bif dstsOk n ops.toList then runP P X call ops (seqPlan P ops.toList 0) F h else none
end Go.Abs

/- What the check of a plan gives. No condition. -/
namespace Go.Abs
variable {ops : Array Oper} {n : Nat} {W : List Nat}
inductive Anc (ops : Array Oper) (k : Nat) : Nat → Prop
  | one {i : Nat} {o : Oper} {e : Edge} : ops[i]? = some o → e ∈ o.after → Region.binds .any e = true → e.on = k → Anc ops k i
  | step {i : Nat} {o : Oper} {e : Edge} : ops[i]? = some o → e ∈ o.after → Region.binds .any e = true → Anc ops k e.on → Anc ops k i
def Lst (listed : Array Bool) (i : Nat) : Prop := listed.getD i false = true
def Down (ops : Array Oper) (listed : Array Bool) : Prop := ∀ i o e, ops[i]? = some o → Lst listed i → e ∈ o.after → Region.binds .any e = true → Lst listed e.on
theorem Anc.listed {listed : Array Bool} (hd : Down ops listed) {k i : Nat} (h : Anc ops k i) :
    (∀ o e, ops[i]? = some o → e ∈ o.after → Region.binds .any e = true → Lst listed e.on) → Lst listed k := by
  induction h with
  | one h1 h2 h3 h4 => intro hr; rw [← h4]; exact hr _ _ h1 h2 h3
  | step h1 h2 h3 _ ih => intro hr; exact ih fun o e g1 g2 g3 => hd _ _ _ g1 (hr _ _ h1 h2 h3) g2 g3
def MaskOk (ops : Array Oper) (D : List Nat) (T : List (Nat × Nat)) : Prop := ∀ i m, maskAt i T = some m → i ∈ D ∧ ∀ k, bit m k = true → Anc ops k i
theorem bit_lor (a b k : Nat) : bit (Nat.lor a b) k = (bit a k || bit b k) := Nat.testBit_or a b k
theorem bit_pow (j k : Nat) : bit (Nat.pow 2 j) k = true → j = k := by
  intro h
  have : Nat.testBit (2 ^ j) k = true := h
  rw [Nat.testBit_two_pow] at this
  simpa using this
theorem maskOf_spec {D : List Nat} {T : List (Nat × Nat)} (hT : MaskOk ops D T) : ∀ {es : List Edge} {m : Nat}, maskOf T es = some m →
    (∀ e ∈ es, Region.binds .any e = true → e.on ∈ D) ∧ ∀ k, bit m k = true → ∃ e ∈ es, Region.binds .any e = true ∧ (e.on = k ∨ Anc ops k e.on)
  | [], m, h => by
    cases h
    refine ⟨fun e he => by simp at he, fun k hk => ?_⟩
    simp [bit] at hk
  | e :: r, m, h => by
    simp only [maskOf] at h
    rw [Bool.cond_eq_ite] at h
    split at h
    · rename_i hb
      split at h
      · rename_i m1 m2 h1 h2; cases h
        obtain ⟨g1, g2⟩ := maskOf_spec hT h2
        obtain ⟨g3, g4⟩ := hT _ _ h1
        refine ⟨fun x hx hxb => ?_, fun k hk => ?_⟩
        · rcases List.mem_cons.1 hx with rfl | hx
          · exact g3
          · exact g1 x hx hxb
        · rw [bit_lor, bit_lor] at hk
          simp only [Bool.or_eq_true] at hk
          rcases hk with (hk | hk) | hk
          · exact ⟨e, by simp, hb, .inr (g4 k hk)⟩
          · exact ⟨e, by simp, hb, .inl (bit_pow _ _ hk)⟩
          · obtain ⟨x, hx, hxb, hxk⟩ := g2 k hk
            exact ⟨x, by simp [hx], hxb, hxk⟩
      · cases h
    · rename_i hb
      obtain ⟨g1, g2⟩ := maskOf_spec hT h
      refine ⟨fun x hx hxb => ?_, fun k hk => ?_⟩
      · rcases List.mem_cons.1 hx with rfl | hx
        · exact absurd hxb hb
        · exact g1 x hx hxb
      · obtain ⟨x, hx, hxb, hxk⟩ := g2 k hk
        exact ⟨x, by simp [hx], hxb, hxk⟩
theorem maskOf_anc {D : List Nat} {T : List (Nat × Nat)} (hT : MaskOk ops D T) {i m : Nat} {o : Oper} (ho : ops[i]? = some o) (h : maskOf T o.after.toList = some m) {k : Nat} (hk : bit m k = true) : Anc ops k i := by
  obtain ⟨e, he, hb, hek⟩ := (maskOf_spec hT h).2 k hk
  rcases hek with hek | hek
  · exact .one ho (by simpa using he) hb hek
  · exact .step ho (by simpa using he) hb hek
theorem MaskOk.cons {D : List Nat} {T : List (Nat × Nat)} (hT : MaskOk ops D T) {i m : Nat} {o : Oper} (ho : ops[i]? = some o) (h : maskOf T o.after.toList = some m) : MaskOk ops (i :: D) ((i, m) :: T) := by
  intro j m' hj
  simp only [maskAt] at hj
  rw [Bool.cond_eq_ite] at hj
  split at hj
  · rename_i hji; cases hj
    have : j = i := by simpa using hji
    subst this
    exact ⟨by simp, fun k hk => maskOf_anc hT ho h hk⟩
  · obtain ⟨g1, g2⟩ := hT _ _ hj
    exact ⟨by simp [g1], g2⟩
structure St (ops : Array Oper) (n : Nat) (W : List Nat) (D : List Nat) (i : Nat) (o : Oper) : Prop where
  get : ops[i]? = some o
  new : i ∉ D
  aft : ∀ e ∈ o.after, Region.binds .any e = true → e.on ∈ D
  dst : ∀ t, o.dst = some t → t < n ∧ t ∉ o.looksAt ops ∧ ∀ j ∈ D, ∀ oj, ops[j]? = some oj → (oj.dst ≠ some t ∧ t ∉ oj.looksAt ops) ∨ (i ∈ W ∧ Anc ops j i)
  look : ∀ j ∈ D, ∀ oj t, ops[j]? = some oj → oj.dst = some t → t ∈ o.looksAt ops → Anc ops j i
def SD (ops : Array Oper) (n : Nat) (W : List Nat) : List Nat → Prop
  | [] => True
  | i :: D => (∃ o, St ops n W D i o) ∧ SD ops n W D
theorem SD.get : ∀ {D : List Nat}, SD ops n W D → ∀ {i}, i ∈ D → ∃ o, ops[i]? = some o
  | [], _, i, hi => by simp at hi
  | j :: D, h, i, hi => by
    rcases List.mem_cons.1 hi with rfl | hi
    · obtain ⟨o, ho⟩ := h.1; exact ⟨o, ho.get⟩
    · exact SD.get h.2 hi
theorem SD.lt : ∀ {D : List Nat}, SD ops n W D → ∀ {i o t}, i ∈ D → ops[i]? = some o → o.dst = some t → t < n ∧ t ∉ o.looksAt ops
  | [], _, i, o, t, hi, _, _ => by simp at hi
  | j :: D, h, i, o, t, hi, ho, ht => by
    rcases List.mem_cons.1 hi with rfl | hi
    · obtain ⟨o', ho'⟩ := h.1
      have := ho'.get; rw [ho] at this; cases this
      exact ⟨(ho'.dst t ht).1, (ho'.dst t ht).2.1⟩
    · exact SD.lt h.2 hi ho ht
theorem SD.look : ∀ {D : List Nat}, SD ops n W D → ∀ {i j oi oj t}, i ∈ D → j ∈ D → ops[i]? = some oi → ops[j]? = some oj → oj.dst = some t → t ∈ oi.looksAt ops → Anc ops j i ∨ j ∈ W
  | [], _, i, j, _, _, _, hi, _, _, _, _, _ => by simp at hi
  | x :: D, h, i, j, oi, oj, t, hi, hj, hoi, hoj, ht, hl => by
    obtain ⟨o, ho⟩ := h.1
    rcases List.mem_cons.1 hi with rfl | hi' <;> rcases List.mem_cons.1 hj with rfl | hj'
    · rw [hoi] at hoj; cases hoj
      have := ho.get; rw [hoi] at this; cases this
      exact absurd hl (ho.dst t ht).2.1
    · have := ho.get; rw [hoi] at this; cases this
      exact .inl (ho.look j hj' oj t hoj ht hl)
    · have := ho.get; rw [hoj] at this; cases this
      rcases (ho.dst t ht).2.2 i hi' oi hoi with g | g
      · exact absurd hl g.2
      · exact .inr g.1
    · exact SD.look h.2 hi' hj' hoi hoj ht hl
theorem SD.ready {listed : Array Bool} : ∀ {D : List Nat}, SD ops n W D → (∃ i ∈ D, ¬ Lst listed i) → ∃ i ∈ D, ¬ Lst listed i ∧ ∃ o, ops[i]? = some o ∧ ∀ e ∈ o.after, Region.binds .any e = true → Lst listed e.on
  | [], _, h => by obtain ⟨i, hi, _⟩ := h; simp at hi
  | x :: D, h, hx => by
    by_cases hD : ∃ i ∈ D, ¬ Lst listed i
    · obtain ⟨i, hi, g⟩ := SD.ready h.2 hD
      exact ⟨i, by simp [hi], g⟩
    · obtain ⟨i, hi, hl⟩ := hx
      rcases List.mem_cons.1 hi with rfl | hi
      · obtain ⟨o, ho⟩ := h.1
        refine ⟨i, by simp, hl, o, ho.get, fun e he hb => ?_⟩
        exact Classical.byContradiction fun hn => hD ⟨_, ho.aft e he hb, hn⟩
      · exact absurd ⟨i, hi, hl⟩ hD
theorem memN_false {i : Nat} {l : List Nat} (h : memN i l = false) : i ∉ l := fun hm => by rw [memN_iff.2 hm] at h; cases h
theorem dstOk_spec {D : List Nat} {o : Oper} (h : dstOk ops n D o = true) : ∀ t, o.dst = some t → t < n ∧ t ∉ o.looksAt ops ∧ ∀ j ∈ D, ∀ oj, ops[j]? = some oj → oj.dst ≠ some t ∧ t ∉ oj.looksAt ops := by
  intro t ht
  unfold dstOk at h
  rw [ht] at h
  simp only [Bool.and_eq_true, Nat.blt_eq, Bool.not_eq_true', List.all_eq_true] at h
  obtain ⟨⟨h1, h2⟩, h3⟩ := h
  refine ⟨h1, memN_false h2, fun j hj oj hoj => ?_⟩
  have := h3 j hj
  rw [hoj] at this
  simp only [Bool.and_eq_true, Bool.not_eq_true'] at this
  refine ⟨fun hd => ?_, memN_false this.2⟩
  have h4 := this.1
  simp [isDst, hd] at h4
theorem dstOkE_spec {D : List Nat} {m : Nat} {o : Oper} (h : dstOkE ops n D m o = true) : ∀ t, o.dst = some t → t < n ∧ t ∉ o.looksAt ops ∧ ∀ j ∈ D, ∀ oj, ops[j]? = some oj → (oj.dst ≠ some t ∧ t ∉ oj.looksAt ops) ∨ bit m j = true := by
  intro t ht
  unfold dstOkE at h
  rw [ht] at h
  simp only [Bool.and_eq_true, Nat.blt_eq, Bool.not_eq_true', List.all_eq_true] at h
  obtain ⟨⟨h1, h2⟩, h3⟩ := h
  refine ⟨h1, memN_false h2, fun j hj oj hoj => ?_⟩
  have := h3 j hj
  rw [hoj] at this
  simp only [Bool.or_eq_true, Bool.and_eq_true, Bool.not_eq_true'] at this
  rcases this with this | this
  · exact .inr this
  · refine .inl ⟨fun hd => ?_, memN_false this.2⟩
    have h4 := this.1
    simp [isDst, hd] at h4
theorem looksOk_spec {D : List Nat} {m : Nat} {o : Oper} (h : looksOk ops D m o = true) : ∀ j ∈ D, ∀ oj t, ops[j]? = some oj → oj.dst = some t → t ∈ o.looksAt ops → bit m j = true := by
  intro j hj oj t hoj ht hl
  unfold looksOk at h
  have := List.all_eq_true.1 h j hj
  rw [hoj] at this
  simp only [ht, Bool.or_eq_true, Bool.not_eq_true'] at this
  rcases this with h1 | h1
  · exact absurd hl (memN_false h1)
  · exact h1
theorem chkPlan_cons {D reads es : List Nat} {T : List (Nat × Nat)} {s : PS} {rest : List PS} (h : chkPlan ops n W D reads es T (s :: rest) = true) (hT : MaskOk ops D T) :
    ∃ o m, St ops n W D s.idx o ∧ (∀ e ∈ es, Anc ops e s.idx) ∧ MaskOk ops (s.idx :: D) ((s.idx, m) :: T) ∧
      (match s with
       | .p _ => s.idx ∉ W ∧ chkPlan ops n W (s.idx :: D) reads es ((s.idx, m) :: T) rest = true
       | .r _ => s.idx ∉ W ∧ chkPlan ops n W (s.idx :: D) (s.idx :: reads) es ((s.idx, m) :: T) rest = true
       | .e _ chk => (∀ r ∈ reads, Anc ops r s.idx ∨ r ∈ chk) ∧ chkPlan ops n W (s.idx :: D) reads (s.idx :: es) ((s.idx, m) :: T) rest = true) := by
  rw [chkPlan] at h
  split at h
  · cases h
  · rename_i o ho
    split at h
    · cases h
    · rename_i m hm
      simp only [Bool.and_eq_true, Bool.not_eq_true'] at h
      obtain ⟨⟨⟨h1, h3⟩, h4⟩, h5⟩ := h
      have hall := fun e he => maskOf_anc hT ho hm (List.all_eq_true.1 h4 e he)
      have hlook := fun j hj oj t g1 g2 g3 => maskOf_anc hT ho hm (looksOk_spec h3 j hj oj t g1 g2 g3)
      have haft : ∀ e ∈ o.after, Region.binds .any e = true → e.on ∈ D := fun e he hb => (maskOf_spec hT hm).1 e (by simpa using he) hb
      cases s with
      | p i =>
        simp only [Bool.and_eq_true, Bool.not_eq_true'] at h5
        exact ⟨o, m, ⟨ho, memN_false h1, haft, fun t ht => let q := dstOk_spec h5.1.2 t ht; ⟨q.1, q.2.1, fun j hj oj hoj => .inl (q.2.2 j hj oj hoj)⟩, hlook⟩, hall, hT.cons ho hm, memN_false h5.1.1, h5.2⟩
      | r i =>
        simp only [Bool.and_eq_true, Bool.not_eq_true'] at h5
        exact ⟨o, m, ⟨ho, memN_false h1, haft, fun t ht => let q := dstOk_spec h5.1.2 t ht; ⟨q.1, q.2.1, fun j hj oj hoj => .inl (q.2.2 j hj oj hoj)⟩, hlook⟩, hall, hT.cons ho hm, memN_false h5.1.1, h5.2⟩
      | e i chk =>
        simp only [Bool.and_eq_true, List.all_eq_true, Bool.or_eq_true] at h5
        refine ⟨o, m, ⟨ho, memN_false h1, haft, fun t ht => let q := dstOkE_spec h5.1.1.2 t ht; ⟨q.1, q.2.1, fun j hj oj hoj => (q.2.2 j hj oj hoj).imp id fun hb => ⟨memN_iff.1 h5.1.1.1, maskOf_anc hT ho hm hb⟩⟩, hlook⟩, hall, hT.cons ho hm, fun r hr => ?_, h5.2⟩
        rcases h5.1.2 r hr with g | g
        · exact .inl (maskOf_anc hT ho hm g)
        · exact .inr (memN_iff.1 g)
theorem chkPlan_all : ∀ {rest : List PS} {D reads es : List Nat} {T : List (Nat × Nat)}, chkPlan ops n W D reads es T rest = true → MaskOk ops D T →
    (∀ i, i < ops.size → i ∈ D ∨ i ∈ rest.map PS.idx) ∧ ∀ s ∈ rest, ∀ e ∈ es, Anc ops e s.idx
  | [], D, reads, es, T, h, hT => by
    rw [chkPlan] at h
    exact ⟨fun i hi => .inl (memN_iff.1 (List.all_eq_true.1 h i (List.mem_range.2 hi))), fun s hs => by simp at hs⟩
  | s :: rest, D, reads, es, T, h, hT => by
    obtain ⟨o, m, h1, h2, h3, h4⟩ := chkPlan_cons h hT
    have key : ∃ reads' es', (∀ e ∈ es, e ∈ es') ∧ chkPlan ops n W (s.idx :: D) reads' es' ((s.idx, m) :: T) rest = true := by
      cases s with
      | p i => exact ⟨_, _, fun _ h => h, h4.2⟩
      | r i => exact ⟨_, _, fun _ h => h, h4.2⟩
      | e i chk => exact ⟨_, _, fun _ h => by simp [h], h4.2⟩
    obtain ⟨reads', es', g1, g2⟩ := key
    obtain ⟨g3, g4⟩ := chkPlan_all g2 h3
    refine ⟨fun i hi => ?_, fun s' hs' e he => ?_⟩
    · rcases g3 i hi with g | g
      · rcases List.mem_cons.1 g with rfl | g
        · exact .inr (by simp)
        · exact .inl g
      · exact .inr (by simp only [List.map_cons, List.mem_cons]; exact .inr g)
    · rcases List.mem_cons.1 hs' with rfl | hs'
      · exact h2 e he
      · exact g4 s' hs' e (g1 e he)
end Go.Abs

/- One operation of a region, run. No condition. -/
namespace Go.Abs
variable {P : Program} {X : Ext0} {call : CallA} {ι : Io} {F : Fm} {a : Act} {ops : Array Oper} {n nn : Nat} {ρ : Option Nat} {Q : Exit → Act → World → Prop}
def Gf (ρ : Option Nat) : Fence := { Fence.wide with round := ρ }
def Ret (ι : Io) (h : H) (w : World) (v : AV) (h' : H) : Ending → World → Prop
  | .returned u, w' => ∃ ι', VR ι' v u ∧ R ι' h' w' ∧ Keep ι ι' h h' w w'
  | _, _ => False
structure CallSound (P : Program) (call : CallA) : Prop where
  fn : ∀ f args h v h', call (.fn f) args h = some (v, h') → ∀ ι w us, R ι h w → VRs ι args us → Calls P f us.toArray w (Ret ι h w v h')
  yield : ∀ l args h v h', call (.yield l) args h = some (v, h') → ∀ ι w us p, R ι h w → VRs ι args us → ι l = some p →
    ∃ fn tmps assign body, (Instr.yield p.blk us.toArray).run P w = .ok (.round p.blk fn tmps assign body) w ∧ ∀ nn, RoundIn Fence.wide nn P p.blk fn tmps assign body w (Ret ι h w v h')
theorem eff_notDefer {op : Op} {h h' : H} {v : AV} (he : effA P X call F h op = some (v, h')) (c : Call) : op ≠ .defer c := by
  rintro rfl; cases he
theorem eff_wp (hX : ExtSound P X) (hC : CallSound P call) (o : Oper) (hf : FR ι F a.tmps) {h h' : H} {w : World} (r : R ι h w) {v : AV} (he : effA P X call F h o.op = some (v, h')) {K : Act → World → Prop}
    (hK : ∀ ι' u w', VR ι' v u → R ι' h' w' → Keep ι ι' h h' w w' → K (a.put o.dst u) w') : o.wpIn (Gf ρ) nn P a w K Q := by
  refine ⟨fun _ _ => trivial, ?_⟩
  rw [Oper.semAt_eq _ _ _ (eff_notDefer he)]
  unfold effA at he
  split at he
  · rename_i v1 h1 hop; cases he
    obtain ⟨ι', u, w', g1, g2, g3, g4⟩ := eop_sound hX o hf r hop
    rcases g4 with g4 | ⟨g4, rfl⟩
    · rw [g4]; exact hK _ _ _ g1 g2 g3
    · rw [g4]; exact hK _ _ _ g1 g2 g3
  · rename_i f as hop
    obtain ⟨us, g1, g2⟩ := eop_sound hX o hf r hop
    rw [g2]
    refine ⟨fun hh => by simp [Gf, Fence.wide] at hh, ?_⟩
    have := hC.fn _ _ _ _ _ he ι w us r g1
    refine CallsIn.mono (F := Gf ρ) (callsIn_wide (n := nn - 1).2 this) ?_
    intro e w' hr
    cases e with
    | returned u => obtain ⟨ι', k1, k2, k3⟩ := hr; exact hK _ _ _ k1 k2 k3
    | panicked c => exact hr.elim
    | outgrown => exact hr.elim
  · rename_i l as hop
    obtain ⟨us, p, g1, g2, g3⟩ := eop_sound hX o hf r hop
    obtain ⟨fn, tmps, assign, body, k1, k2⟩ := hC.yield _ _ _ _ _ he ι w us p r g1 g2
    rw [g3, k1]
    refine ⟨fun hh => by simp [Gf, Fence.wide] at hh, ?_⟩
    refine RoundIn.mono (F := Gf ρ) (k2 (nn - 1)) ?_
    intro e w' hr
    cases e with
    | returned u => obtain ⟨ι', k1, k2, k3⟩ := hr; exact hK _ _ _ k1 k2 k3
    | panicked c => exact hr.elim
    | outgrown => exact hr.elim
  · cases he
theorem pop_notDefer {op : Op} {r : PR} (he : pop P F op = some r) (c : Call) : op ≠ .defer c := by
  rintro rfl; cases he
theorem rop_notDefer {op : Op} {h : H} {v : AV} (he : rop P F h op = some v) (c : Call) : op ≠ .defer c := by
  rintro rfl; cases he
theorem val_wp (o : Oper) (hf : FR ι F a.tmps) {w : World} {v : AV} (he : pop P F o.op = some (.val v)) {K : Act → World → Prop}
    (hK : ∀ u, VR ι v u → K (a.put o.dst u) w) : o.wpIn (Gf ρ) nn P a w K Q := by
  refine ⟨fun _ _ => trivial, ?_⟩
  rw [Oper.semAt_eq _ _ _ (pop_notDefer he)]
  obtain ⟨u, g1, g2⟩ := pop_sound o hf he
  rw [g2]; exact hK u g1
theorem new_wp (o : Oper) (hf : FR ι F a.tmps) {w : World} {ob : AObj} {k : NK} (he : pop P F o.op = some (.new ob k)) {K : Act → World → Prop}
    (hK : ∀ (O : Obj) (ext : Nat) (u : Value), ob ≠ .dead → (∀ (ι' : Io) (b : Nat), Ext ι ι' → ι' b = some ⟨w.heap.size, 0, ext⟩ → VR ι' (k.val b) u) →
      (∀ (ι' : Io), Ext ι ι' → OR ι' ⟨w.heap.size, 0, ext⟩ (w.alloc O) ob) → K (a.put o.dst u) (w.alloc O)) : o.wpIn (Gf ρ) nn P a w K Q := by
  refine ⟨fun _ _ => trivial, ?_⟩
  rw [Oper.semAt_eq _ _ _ (pop_notDefer he)]
  obtain ⟨O, ext, u, g0, g1, g2, g3⟩ := pop_sound o hf he
  rw [g1]
  exact hK O ext _ g0 (fun ι' b h1 h2 => g2 ι' b h1 _ h2) (fun ι' h1 => g3 ι' w h1)
theorem read_wp (o : Oper) (hf : FR ι F a.tmps) {h : H} {w : World} (r : R ι h w) {v : AV} (he : rop P F h o.op = some v) {K : Act → World → Prop}
    (hK : ∀ u, VR ι v u → K (a.put o.dst u) w) : o.wpIn (Gf ρ) nn P a w K Q := by
  refine ⟨fun _ _ => trivial, ?_⟩
  rw [Oper.semAt_eq _ _ _ (rop_notDefer he)]
  obtain ⟨u, g1, g2⟩ := rop_sound o hf r he
  rw [g2]; exact hK u g1
noncomputable def resT (F : Fm) : List Tmp → Fm
  | [] => .nil
  | t :: ts => match F.at t with
    | some v => (resT F ts).put t v
    | none => resT F ts
theorem at_resT : ∀ (ts : List Tmp) (t : Nat), (resT F ts).at t = if t ∈ ts then F.at t else none
  | [], t => by simp [resT, Tr.at_nil]
  | s :: ts, t => by
    simp only [resT]
    split
    · rename_i v hv
      rw [Tr.at_put]
      by_cases e : t = s
      · subst e; simp [hv]
      · rw [if_neg e, at_resT ts t]; simp [e]
    · rename_i hv
      rw [at_resT ts t]
      by_cases e : t = s
      · subst e; simp [hv]
      · simp [e]
theorem looks_op {o : Oper} {t : Tmp} (h : Operand.tmp t ∈ o.op.operands.toList) : t ∈ o.looksAt ops :=
  List.mem_append_left _ (List.mem_filterMap.2 ⟨.tmp t, h, rfl⟩)
theorem looks_guard {o : Oper} {j : Nat} {b : Bool} {oj : Oper} {t : Tmp} (hg : o.guard = some (j, b)) (hj : ops[j]? = some oj) (ht : oj.dst = some t) : t ∈ o.looksAt ops :=
  List.mem_append_right _ (by simp [hg, hj, ht])
theorem resT_ev {o : Oper} : ∀ x ∈ o.op.operands.toList, ev (resT F (o.looksAt ops)) x = ev F x := by
  intro x hx
  cases x with
  | tmp t => simp only [ev]; rw [at_resT, if_pos (looks_op hx)]
  | _ => rfl
def FRo (ι : Io) (F : Fm) (tmps : Array Value) (ts : List Tmp) : Prop := ∀ t ∈ ts, ∀ v, F.at t = some v → ∃ u, tmps[t]? = some u ∧ VR ι v u
theorem FRo.res {ts : List Tmp} (h : FRo ι F a.tmps ts) : FR ι (resT F ts) a.tmps := by
  intro t v hv
  rw [at_resT] at hv
  split at hv
  · rename_i ht; exact h t ht v hv
  · cases hv
theorem FR.o {ts : List Tmp} (h : FR ι F a.tmps) : FRo ι F a.tmps ts := fun t _ v hv => h t v hv
theorem wanted_spec {o : Oper} {b : Bool} (h : wantA F ops o = some b) (hf : FRo ι F a.tmps (o.looksAt ops)) : Region.wanted o (yielded ops a.tmps) = b := by
  unfold wantA at h
  unfold Region.wanted
  split at h
  · rename_i hg; cases h; simp [hg]
  · rename_i j c hg
    split at h
    · rename_i oj hj
      split at h
      · rename_i t ht
        split at h
        · rename_i d hd; cases h
          obtain ⟨u, h1, h2⟩ := hf t (looks_guard hg hj ht) _ hd
          cases h2
          have : yielded ops a.tmps j = some d := by simp [yielded, hj, ht, h1]
          simp only [hg, this]
          cases d <;> cases c <;> rfl
        · rename_i vs hd; cases h
          obtain ⟨u, h1, h2⟩ := hf t (looks_guard hg hj ht) _ hd
          cases h2
          have : yielded ops a.tmps j = none := by simp [yielded, hj, ht, h1]
          simp only [hg, this]
          rfl
        · cases h
      · cases h
    · cases h
theorem wantA_congr {F' : Fm} {o : Oper} (h : ∀ t ∈ o.looksAt ops, F'.at t = F.at t) : wantA F' ops o = wantA F ops o := by
  unfold wantA
  split
  · rfl
  · rename_i j b hg
    split
    · rename_i oj hj
      split
      · rename_i t ht; rw [h t (looks_guard hg hj ht)]
      · rfl
    · rfl
theorem ops_congr {F' : Fm} {o : Oper} (h : ∀ t ∈ o.looksAt ops, F'.at t = F.at t) : ∀ x ∈ o.op.operands.toList, ev F' x = ev F x := by
  intro x hx
  cases x with
  | tmp t => exact h t (looks_op hx)
  | _ => rfl
theorem at_putD (d : Option Tmp) (v : AV) (t : Nat) : (putD F d v).at t = if d = some t then some v else F.at t := by
  cases d with
  | none => simp [putD]
  | some s =>
    simp only [putD, Tr.at_put]
    by_cases e : t = s
    · subst e; simp
    · rw [if_neg e, if_neg (fun h => e (by cases h; rfl))]
theorem put_tmps (d : Option Tmp) (u : Value) (t : Nat) (hd : ∀ t, d = some t → t < a.tmps.size) : (a.put d u).tmps[t]? = if d = some t then some u else a.tmps[t]? := by
  cases d with
  | none => simp [Act.put]
  | some s =>
    simp only [Act.put, Array.getElem?_setIfInBounds]
    have := hd s rfl
    by_cases e : s = t
    · subst e; simp [this]
    · rw [if_neg e, if_neg (fun h => e (by cases h; rfl))]
theorem put_size (d : Option Tmp) (u : Value) : (a.put d u).tmps.size = a.tmps.size := by cases d <;> simp [Act.put]
theorem put_defers' (d : Option Tmp) (u : Value) : (a.put d u).defers = a.defers := by cases d <;> simp [Act.put]
theorem FR.put {ι' : Io} (he : Ext ι ι') (hf : FR ι F a.tmps) {d : Option Tmp} {v : AV} {u : Value} (hd : ∀ t, d = some t → t < a.tmps.size) (hv : VR ι' v u) : FR ι' (putD F d v) (a.put d u).tmps := by
  intro t v' hv'
  rw [at_putD] at hv'
  rw [put_tmps d u t hd]
  by_cases e : d = some t
  · rw [if_pos e] at hv' ⊢; cases hv'; exact ⟨u, rfl, hv⟩
  · rw [if_neg e] at hv' ⊢
    obtain ⟨u', h1, h2⟩ := hf t v' hv'
    exact ⟨u', h1, h2.mono he⟩
end Go.Abs

/- A region in its own order. No condition. -/
namespace Go.Abs
variable {P : Program} {X : Ext0} {call : CallA} {ι : Io} {F : Fm} {a : Act} {ops : Array Oper} {n nn : Nat} {ρ : Option Nat} {Q : Exit → Act → World → Prop}
theorem wpOpIn_some {i : Nat} {o : Oper} (ho : ops[i]? = some o) {K : Act → World → Prop} {w : World} {b : Bool} (hb : Region.wanted o (yielded ops a.tmps) = b)
    (h : if b then o.wpIn (Gf ρ) nn P a w K Q else K (a.put o.dst undef) w) : wpOpIn (Gf ρ) nn P ops Q i K a w := by
  unfold wpOpIn
  rw [ho]
  cases b with
  | true => simp only [hb, if_true] at h ⊢; exact h
  | false => simp only [hb, if_false, Bool.false_eq_true] at h ⊢; exact ⟨fun _ _ => trivial, h⟩
structure Post (ι : Io) (h : H) (w : World) (a : Act) (F' : Fm) (h' : H) (ι' : Io) (a' : Act) (w' : World) : Prop where
  fr : FR ι' F' a'.tmps
  r : R ι' h' w'
  k : Keep ι ι' h h' w w'
  size : a'.tmps.size = a.tmps.size
  defers : a'.defers = a.defers
theorem Post.trans {ι ι' ι'' : Io} {h h' h'' : H} {w w' w'' : World} {a a' a'' : Act} {F' F'' : Fm} (p : Post ι h w a F' h' ι' a' w') (q : Post ι' h' w' a' F'' h'' ι'' a'' w'') : Post ι h w a F'' h'' ι'' a'' w'' :=
  ⟨q.fr, q.r, p.k.trans q.k, q.size.trans p.size, q.defers.trans p.defers⟩
theorem step_wp (hX : ExtSound P X) (hC : CallSound P call) {s : PS} {o : Oper} (ho : ops[s.idx]? = some o) (hd : ∀ t, o.dst = some t → t < a.tmps.size) {h h' : H} {F' : Fm} {w : World}
    (hst : stepP P X call ops s F h = some (F', h')) (hf : FR ι F a.tmps) (r : R ι h w) {K : Act → World → Prop} (hK : ∀ ι' a' w', Post ι h w a F' h' ι' a' w' → K a' w') :
    wpOpIn (Gf ρ) nn P ops Q s.idx K a w := by
  have skip : wantA F ops o = some false → ∀ {h1 : H}, h1 = h → F' = putD F o.dst (.tup []) → h' = h1 → wpOpIn (Gf ρ) nn P ops Q s.idx K a w := by
    rintro hw h1 rfl rfl rfl
    exact wpOpIn_some ho (wanted_spec hw hf.o) (hK ι _ _ ⟨hf.put (.refl _) hd (undef_vr ι), r, .refl _ _ _, put_size _ _, put_defers' _ _⟩)
  cases s with
  | p i =>
    simp only [PS.idx] at ho
    simp only [stepP_eq, stepP0, ho] at hst
    split at hst
    · rename_i hw
      refine wpOpIn_some ho (wanted_spec hw hf.o) ?_
      simp only [if_true]
      split at hst
      · rename_i v hp; cases hst
        exact val_wp o hf hp fun u hu => hK ι _ _ ⟨hf.put (.refl _) hd hu, r, .refl _ _ _, put_size _ _, put_defers' _ _⟩
      · rename_i ob k hp; cases hst
        refine new_wp o hf hp fun O ext u g0 g1 g2 => ?_
        have hfr := r.fresh h.next (Nat.le_refl _)
        have he : Ext ι (upd ι h.next ⟨w.heap.size, 0, ext⟩) := .upd _ hfr
        refine hK (upd ι h.next ⟨w.heap.size, 0, ext⟩) _ _ ⟨hf.put he hd (g1 _ _ he (upd_same _ _ _)), r.new _ g0 _ _ (g2 _ he), .new r _ g0 _ _, put_size _ _, put_defers' _ _⟩
      · cases hst
    · rename_i hw; cases hst
      exact skip hw rfl rfl rfl
    · cases hst
  | r i =>
    simp only [PS.idx] at ho
    simp only [stepP_eq, stepP0, ho] at hst
    split at hst
    · rename_i hw
      refine wpOpIn_some ho (wanted_spec hw hf.o) ?_
      simp only [if_true]
      split at hst
      · rename_i v hp; cases hst
        exact read_wp o hf r hp fun u hu => hK ι _ _ ⟨hf.put (.refl _) hd hu, r, .refl _ _ _, put_size _ _, put_defers' _ _⟩
      · cases hst
    · rename_i hw; cases hst
      exact skip hw rfl rfl rfl
    · cases hst
  | e i chk =>
    simp only [PS.idx] at ho
    simp only [stepP_eq, stepP0, ho] at hst
    split at hst
    · rename_i hw
      refine wpOpIn_some ho (wanted_spec hw hf.o) ?_
      simp only [if_true]
      split at hst
      · rename_i v h1 hp
        rw [Bool.cond_eq_ite] at hst
        split at hst
        · cases hst
          exact eff_wp hX hC o hf r hp fun ι' u w' g1 g2 g3 => hK ι' _ _ ⟨hf.put g3.ext hd g1, g2, g3, put_size _ _, put_defers' _ _⟩
        · cases hst
      · cases hst
    · rename_i hw
      rw [Bool.cond_eq_ite] at hst
      split at hst
      · cases hst; exact skip hw rfl rfl rfl
      · cases hst
    · cases hst
theorem psOf_idx (k i : Nat) (c : List Nat) : (psOf k i c).idx = i := by
  unfold psOf
  split <;> rfl
theorem seq_sound (hX : ExtSound P X) (hC : CallSound P call) : ∀ (rest : List Oper) (i : Nat) {F : Fm} {h h' : H} {F' : Fm} {ι : Io} {a : Act} {w : World}, (∀ j, rest[j]? = ops[i + j]?) → dstsOk n rest = true → a.tmps.size = n →
    runP P X call ops (seqPlan P rest i) F h = some (F', h') → FR ι F a.tmps → R ι h w → (∀ ι' a' w', Post ι h w a F' h' ι' a' w' → Q .normal a' w') →
    wpOpsIn (Gf ρ) nn P ops Q (List.range' i rest.length) a w
  | [], i, F, h, h', F', ι, a, w, _, _, _, hrun, hf, r, hQ => by
    cases hrun
    exact hQ ι a w ⟨hf, r, .refl _ _ _, rfl, rfl⟩
  | o :: rest, i, F, h, h', F', ι, a, w, hget, hdst, hn, hrun, hf, r, hQ => by
    have ho : ops[i]? = some o := by have := hget 0; simpa using this.symm
    simp only [seqPlan, runP] at hrun
    split at hrun
    · rename_i F1 h1 hst
      rw [List.length_cons, List.range'_succ, wpOpsIn_cons]
      simp only [dstsOk, List.all_cons, Bool.and_eq_true] at hdst
      have hd : ∀ t, o.dst = some t → t < a.tmps.size := fun t ht => by
        have := hdst.1; rw [ht] at this; rw [hn]; simpa using this
      have := step_wp (ρ := ρ) (nn := nn) (Q := Q) (s := psOf (kindA P o.op) i []) hX hC (by rw [psOf_idx]; exact ho) hd hst hf r
        (K := wpOpsIn (Gf ρ) nn P ops Q (List.range' (i + 1) rest.length)) (fun ι' a' w' p => by
          refine seq_sound hX hC rest (i + 1) (fun j => ?_) hdst.2 (p.size.trans hn) hrun p.fr p.r fun ι'' a'' w'' q => hQ _ _ _ (p.trans q)
          have := hget (j + 1)
          rw [show i + 1 + j = i + (j + 1) by omega]
          simpa using this)
      rw [psOf_idx] at this
      exact this
    · cases hrun
end Go.Abs
