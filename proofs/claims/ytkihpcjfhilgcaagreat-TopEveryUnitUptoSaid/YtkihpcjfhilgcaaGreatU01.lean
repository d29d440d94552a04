/- Operations, rows and bytes that the walks of a channel lean on. No condition. -/
import Derived.Test.YtkihpcjfhilgcaaGreatZ14
import Derived.Test.YtkihpcjfhilgcaaGreatZ15
namespace Go.Abs
open Go.Proofs
section
variable {X : Ext0} {S : Sums} {L : Nat} {h : H}
section
variable {P : Program} {call : CallA} {n : Nat} {F : Fm} {K : Fm → H → Prop} {ops : Array Oper}
variable {ty : TypeId} {pos : String} {af : Array Edge} {chk : List Nat} {d : Nat} {v : AV} {t : TypeId} {x y : Operand} {k : IntKind}
theorem bin_addI {p q : Int} : binA P .add t x y (.int k p) (.int k q) = some (.int k (k.wrap (p + q))) := by
  simp only [binA, scal]
  have : binOp .add t (.int k p) (.int k q) = .pure (.int k (k.wrap (p + q))) := by
    show (if k ≠ k then _ else _) = _; rw [if_neg (by simp)]; rfl
  rw [this]; rfl
theorem bin_subI {p q : Int} : binA P .sub t x y (.int k p) (.int k q) = some (.int k (k.wrap (p - q))) := by
  simp only [binA, scal]
  have : binOp .sub t (.int k p) (.int k q) = .pure (.int k (k.wrap (p - q))) := by
    show (if k ≠ k then _ else _) = _; rw [if_neg (by simp)]; rfl
  rw [this]; rfl
theorem bin_neq_nil {b o : Nat} {e : TypeId} (hu : P.underlying t = some (.pointer e)) : binA P .neq t x y (.ptr b o) .pnil = some (.bool true) := by
  simp only [binA, scal, eqOp, eqk, hu]; rfl
theorem bin_eql_nil {b o : Nat} {e : TypeId} (hu : P.underlying t = some (.pointer e)) : binA P .eql t x y (.ptr b o) .pnil = some (.bool false) := by
  simp only [binA, scal, eqOp, eqk, hu]; rfl
theorem bin_eql_nn {e : TypeId} (hu : P.underlying t = some (.pointer e)) : binA P .eql t x y .pnil .pnil = some (.bool true) := by
  simp only [binA, scal, eqOp, eqk, hu]; rfl
theorem bin_neq_nn {e : TypeId} (hu : P.underlying t = some (.pointer e)) : binA P .neq t x y .pnil .pnil = some (.bool false) := by
  simp only [binA, scal, eqOp, eqk, hu]; rfl
theorem at_off {c : Tr AV} {a : Nat} {r : Option AV} (h1 : c.at a = r) : c.at (0 + a * 1) = r := by rw [Nat.zero_add, Nat.mul_one]; exact h1
theorem op_notT (hx : ev F x = some (.bool true)) (hk : K (F.put d (.bool false)) h) : OpP P ops ⟨some d, .unOp .not t x, ty, pos, af, none⟩ F h K := op_not hx hk
theorem op_notF (hx : ev F x = some (.bool false)) (hk : K (F.put d (.bool true)) h) : OpP P ops ⟨some d, .unOp .not t x, ty, pos, af, none⟩ F h K := op_not hx hk
theorem chkR_load {r bb o : Nat} {s : Tmp} (ho : ops[r]? = some ⟨some s, .load t x, ty, pos, af, none⟩) (hx : ev F x = some (.ptr bb o)) (hl : loadA P h t bb o = some v) (hd : F.at s = some v) (hs : v.same v = true) : chkR P F h ops r = true := by
  simp only [chkR, ho, want_none, rop, hx, hl, hd, hs]
theorem all_one {r : Nat} {f : Nat → Bool} (h1 : f r = true) : [r].all f = true := by simp [h1]
theorem op_callsR {S : Sums} {dd : Nat} {g : FuncId} {args : Array Operand} {ts : Array TypeId} {vs : List AV} {Q : AV → H → Prop} (ha : evs F args.toList = some vs) (hg : okFn P g = true) (hc : CS P X S L dd g vs h Q)
    (hk : ∀ v h', Q v h' → chk.all (chkR P (F.put d v) h' ops) = true) (hK : ∀ v h', Q v h' → K (F.put d v) h') :
    OpE P X (callA P X S L dd) ops chk ⟨some d, .call ⟨.value (.func g), args, ts⟩, ty, pos, af, none⟩ F h K := by
  obtain ⟨v, h', e, q⟩ := hc
  exact op_call ha hg e (hk v h' q) (hK v h' q)
end
end
section
variable {X : Ext0} {S : Sums} {L : Nat} {h : H}
def Row (h : H) (v : AV) (l : List AV) : Prop :=
  (v = .snil ∧ l = []) ∨ ∃ b c, v = .slice b 0 l.length l.length 1 false ∧ h.obj b = some (.cells l.length c) ∧ ∀ i, i < l.length → c.at i = l[i]?
def blkOf (v : AV) : Nat → Prop := fun b => match v with
  | .slice b' .. => b = b'
  | _ => False
section
variable {P : Program} {call : CallA} {n : Nat} {F : Fm} {K : Fm → H → Prop} {ops : Array Oper}
variable {ty : TypeId} {pos : String} {af : Array Edge} {chk : List Nat} {d : Nat} {v : AV} {t : TypeId} {x y : Operand} {k : IntKind}
theorem op_append {s u : AV} {h' : H} (hx : ev F x = some s) (hy : ev F y = some u) (ha : appendA P h [t, t] s u = some (v, h')) (hk : K (F.put d v) h') :
    OpE P X call ops [] ⟨some d, .call ⟨.builtin .append, #[x, y], #[t, t]⟩, ty, pos, af, none⟩ F h K := by
  refine OpE.done (v := v) (h' := h') ?_ rfl hk
  have h1 : evs F (#[x, y] : Array Operand).toList = some [s, u] := evs_cons hx (evs_cons hy evs_nil)
  simp only [effA, eop, h1, ha]
theorem appendA_of {s u : AV} {h' : H} {e : TypeId} {i : TypeInfo} {z : AV} {m : Nat} {news : List AV} (hu : P.underlying t = some (.slice e)) (hi : P.info? e = some i) (hz : zer P e = some z) (hz1 : z.cells.length = 1) (hi1 : i.size = 1)
    (hs : srcA P h t 1 u = some (m, news)) (ha : appendTo h 1 i.bytes s m news = some (v, h')) : appendA P h [t, t] s u = some (v, h') := by
  have e1 : (Nat.beq 1 1 && Nat.blt 0 1) = true := rfl
  simp only [appendA, hu, hi, hz, hz1, hi1, e1, cond_true, hs, ha]
theorem srcA_one {b : Nat} {c : Tr AV} {ex : Bool} {e : TypeId} {w : AV} (hu : P.underlying t = some (.slice e)) (hb : h.obj b = some (.cells 1 c)) (hc : c.at 0 = some w) (hw : w.one = true) : srcA P h t 1 (.slice b 0 1 1 1 ex) = some (1, [w]) := by
  have e1 : (Nat.beq 1 1 && Nat.ble 1 1) = true := rfl
  have e2 : Nat.beq (1 * 1) 0 = false := rfl
  have e3 : Nat.ble (0 + 1 * 1) 1 = true := rfl
  have e4 : gets c 0 (1 * 1) = some [w] := by show (match c.at 0 with | none => none | some v => some [v]) = _; rw [hc]
  simp only [srcA, hu, hb, e2, e3, e4, cond_true, cond_false, List.all_cons, hw, List.all_nil, Bool.and_self]
  rfl
end
theorem Fr.above {h0 h h' : H} {B : Nat → Prop} (a : Fr (fun _ => False) h0 h) (b : Fr B h h') (hB : ∀ c, B c → h0.next ≤ c) : Fr (fun _ => False) h0 h' :=
  ⟨b.wf, Nat.le_trans a.next b.next, fun c hc _ => (b.obj c (Nat.lt_of_lt_of_le hc a.next) fun hb => by have := hB c hb; omega).trans (a.obj c hc id)⟩
theorem info5 : ∃ i, Tryz.prog.info? 5 = some i ∧ i.size = 1 ∧ i.bytes = 1 := by
  have h : (Tryz.prog.info? 5).map (fun i => (i.size, i.bytes)) = some (1, 1) := by kernel_rfl
  cases hi : Tryz.prog.info? 5 with
  | none => rw [hi] at h; cases h
  | some i => rw [hi] at h; simp only [Option.map_some, Option.some.injEq, Prod.mk.injEq] at h; exact ⟨i, rfl, h⟩
def u8L (l : List Nat) : List AV := l.map fun x => .int .u8 (.ofNat x)
theorem u8L_length (l : List Nat) : (u8L l).length = l.length := List.length_map ..
end
section
variable {X : Ext0} {S : Sums} {L : Nat} {h : H}
def Vals (h : H) (b o : Nat) (l : List AV) : Prop := ∃ m c, h.obj b = some (.cells m c) ∧ o + l.length ≤ m ∧ ∀ (i : Nat) (v : AV), l[i]? = some v → c.at (o + i) = some v
theorem Vals.fr {h h' : H} {b o : Nat} {l : List AV} (v : Vals h b o l) (w : WF h) {B : Nat → Prop} (f : Fr B h h') (hn : ¬ B b) : Vals h' b o l := by
  obtain ⟨m, c, h1, h2, h3⟩ := v
  exact ⟨m, c, f.get w h1 hn, h2, h3⟩
theorem Vals.lt {b o : Nat} {l : List AV} (v : Vals h b o l) (w : WF h) : b < h.next := by
  obtain ⟨m, c, h1, _⟩ := v
  exact w.lt h1
theorem Vals.load {b o : Nat} {l : List AV} {i : Nat} {x : AV} {t : TypeId} {P : Program} (v : Vals h b o l) (ha : isAg P t = some false) (hi : l[i]? = some x) : loadA P h t b (o + i * 1) = some x := by
  obtain ⟨m, c, h1, h2, h3⟩ := v
  have hl : i < l.length := (List.getElem?_eq_some_iff.1 hi).1
  rw [Nat.mul_one]
  exact loadA_cell ha h1 (by omega) (h3 i x hi)
def Bts (h : H) (N : Nat) (v : AV) (l : List Nat) : Prop := ∃ b cp ex, v = .slice b 0 l.length cp 1 ex ∧ l.length ≤ cp ∧ N ≤ b ∧ Vals h b 0 (u8L l)
theorem Bts.lb {l : List Nat} {b : Nat} (hv : Vals h b 0 (u8L l)) : LB h b 0 l := fun i x hx => by
  have := hv.load (i := i) (x := .int .u8 (.ofNat x)) (t := 5) (P := Tryz.prog) (by kernel_rfl) (by unfold u8L; rw [List.getElem?_map, hx]; rfl)
  rwa [Nat.mul_one] at this
theorem gets_all {c : Tr AV} : ∀ {l : List AV} {o : Nat}, (∀ i, i < l.length → c.at (o + i) = l[i]?) → gets c o l.length = some l
  | [], o, _ => rfl
  | v :: l, o, h => by
    have h0 : c.at o = some v := h 0 (by simp)
    have ih := gets_all (c := c) (l := l) (o := o + 1) fun i hi => by
      have := h (i + 1) (by simpa using hi)
      rw [show o + (i + 1) = o + 1 + i by omega] at this
      simpa using this
    simp only [List.length_cons, gets, h0, ih]
theorem u8L_one (l : List Nat) : (u8L l).all AV.one = true := by
  rw [List.all_eq_true]
  intro v hv
  obtain ⟨x, _, rfl⟩ := List.mem_map.1 hv
  rfl
end
section
variable {X : Ext0} {S : Sums} {L : Nat} {h : H}
def Img (h : H) (v : AV) (l : List Nat) : Prop := (v = .snil ∧ l = []) ∨ ∃ b o cp ex, v = .slice b o l.length cp 1 ex ∧ l.length ≤ cp ∧ LB h b o l
theorem LB.fr {h h' : H} {b o : Nat} {l : List Nat} (hl : LB h b o l) (w : WF h) {B : Nat → Prop} (f : Fr B h h') (hn : ¬ B b) : LB h' b o l := fun i x hx => by
  have h1 := hl i x hx
  have h2 : b < h.next := by
    rcases Nat.lt_or_ge b h.next with h3 | h3
    · exact h3
    · unfold loadA at h1; rw [w b h3] at h1; cases h1
  have h3 := f.obj b h2 hn
  unfold loadA at h1 ⊢
  rw [h3]; exact h1
theorem Img.fr {h h' : H} {v : AV} {l : List Nat} (r : Img h v l) (w : WF h) (f : Fr (fun _ => False) h h') : Img h' v l := by
  rcases r with r | ⟨b, o, cp, ex, rfl, h1, h2⟩
  · exact .inl r
  · exact .inr ⟨b, o, cp, ex, rfl, h1, h2.fr w f id⟩
theorem Bts.img {N : Nat} {v : AV} {l : List Nat} (b : Bts h N v l) : Img h v l := by
  obtain ⟨b, cp, ex, rfl, h1, _, h2⟩ := b
  exact .inr ⟨b, 0, cp, ex, rfl, h1, Bts.lb h2⟩
section
variable {P : Program} {call : CallA} {n : Nat} {F : Fm} {K : Fm → H → Prop} {ops : Array Oper}
variable {ty : TypeId} {pos : String} {af : Array Edge} {chk : List Nat} {d : Nat} {v : AV} {t e : TypeId} {x y : Operand} {k : IntKind}
theorem op_len_img {l : List Nat} (hx : ev F x = some v) (hi : Img h v l) (hu : P.underlying t = some (.slice e)) (hk : K (F.put d (.int .i64 (.ofNat l.length))) h) :
    OpP P ops ⟨some d, .call ⟨.builtin .len, #[x], #[t]⟩, ty, pos, af, none⟩ F h K := by
  rcases hi with ⟨rfl, rfl⟩ | ⟨b, o, cp, ex, rfl, _⟩
  · exact op_len_nil hx hu hk
  · exact op_len_slice hx hu hk
end
end
theorem same_int (k : IntKind) (n : Int) : (AV.int k n).same (.int k n) = true := by
  simp only [AV.same, AV.same0]
  cases hk : decEq k k with
  | isFalse h => exact absurd rfl h
  | isTrue _ =>
    cases hn : decEq n n with
    | isFalse h => exact absurd rfl h
    | isTrue _ => rfl
theorem evo_some {F : Fm} {x : Operand} {v : AV} (h1 : ev F x = some v) : evo F (some x) = some (some v) := by simp only [evo, h1]
section
variable {P : Program} {X : Ext0} {call : CallA} {ops : Array Oper} {rest : List PS} {F : Fm} {h : H} {N : Fm → H → Prop} {i t d o off f bb : Nat} {v : AV} {tt ty : TypeId} {pos : String} {af : Array Edge}
theorem pM (ho : ops[i]? = some ⟨some d, .move (.tmp t), ty, pos, af, none⟩) (h1 : F.at t = some v) (hk : RP P X call ops rest (F.put d v) h N) : RP P X call ops (.p i :: rest) F h N := RP.p ho (op_move (qT h1) hk)
theorem pA (ho : ops[i]? = some ⟨some d, .assign (.tmp t), ty, pos, af, none⟩) (h1 : F.at t = some v) (hk : RP P X call ops rest (F.put d v) h N) : RP P X call ops (.p i :: rest) F h N := RP.p ho (op_assign (qT h1) hk)
theorem pN (ho : ops[i]? = some ⟨some d, .nilCheck (.tmp t), ty, pos, af, none⟩) (h1 : F.at t = some (.ptr bb o)) (hk : RP P X call ops rest (F.put d (.ptr bb o)) h N) : RP P X call ops (.p i :: rest) F h N := RP.p ho (op_nilCheck (qT h1) hk)
theorem pF (ho : ops[i]? = some ⟨some d, .fieldAddr tt (.tmp t) f, ty, pos, af, none⟩) (h1 : F.at t = some (.ptr bb o)) (hf : fieldOff P tt f = some off) (hk : RP P X call ops rest (F.put d (.ptr bb (o + off))) h N) : RP P X call ops (.p i :: rest) F h N := RP.p ho (op_fieldAddr (qT h1) hf hk)
theorem pL (ho : ops[i]? = some ⟨some d, .load tt (.tmp t), ty, pos, af, none⟩) (h1 : F.at t = some (.ptr bb o)) (hl : loadA P h tt bb o = some v) (hk : RP P X call ops rest (F.put d v) h N) : RP P X call ops (.r i :: rest) F h N := RP.r ho (op_load (qT h1) hl hk)
end
end Go.Abs
namespace Go.Abs
variable {P : Program} {X : Ext0} {call : CallA} {L n : Nat} {F : Fm} {h : H} {K : Fm → H → Prop} {ops : Array Oper}
variable {ty : TypeId} {pos : String} {af : Array Edge} {chk : List Nat} {d : Nat} {v : AV} {t : TypeId} {x y : Operand} {k : IntKind}
def Cells (h : H) (b : Nat) (l : List AV) : Prop := ∃ c, h.obj b = some (.cells l.length c) ∧ ∀ i, i < l.length → c.at i = l[i]?
theorem Cells.fr {h h' : H} {b : Nat} {l : List AV} (r : Cells h b l) (w : WF h) {B : Nat → Prop} (f : Fr B h h') (hn : ¬ B b) : Cells h' b l := by
  obtain ⟨c, h1, h2⟩ := r
  exact ⟨c, f.get w h1 hn, h2⟩
theorem Cells.lt {b : Nat} {l : List AV} (r : Cells h b l) (w : WF h) : b < h.next := by
  obtain ⟨c, h1, _⟩ := r
  exact w.lt h1
theorem Cells.load {b o : Nat} {l : List AV} (r : Cells h b l) (ha : isAg P t = some false) (hv : l[o]? = some v) : loadA P h t b o = some v := by
  obtain ⟨c, h1, h2⟩ := r
  have ho : o < l.length := (List.getElem?_eq_some_iff.1 hv).1
  exact loadA_cell ha h1 ho ((h2 o ho).trans hv)
theorem gets_of {c : Tr AV} : ∀ {m o : Nat} {vs : List AV}, vs.length = m → (∀ i, i < m → c.at (o + i) = vs[i]?) → gets c o m = some vs
  | 0, o, vs, hl, _ => by obtain rfl := List.eq_nil_of_length_eq_zero hl; rfl
  | m + 1, o, [], hl, _ => by simp at hl
  | m + 1, o, v :: vs, hl, h => by
    have h0 : c.at o = some v := h 0 (by omega)
    have ih := gets_of (c := c) (m := m) (o := o + 1) (vs := vs) (by simpa using hl) fun i hi => by
      have := h (i + 1) (by omega)
      rw [show o + (i + 1) = o + 1 + i by omega] at this
      simpa using this
    simp only [gets, h0, ih]
theorem Cells.loadG {b o m : Nat} {l vs : List AV} (r : Cells h b l) (ha : isAg P t = some true) (hs : szo P t = some m) (hv : (l.drop o).take m = vs) (hl : o + m ≤ l.length) : loadA P h t b o = some (.agg vs) := by
  obtain ⟨c, h1, h2⟩ := r
  have hvl : vs.length = m := by rw [← hv, List.length_take, List.length_drop]; omega
  have hg : gets c o m = some vs := gets_of hvl fun i hi => by
    rw [h2 (o + i) (by omega), ← hv, List.getElem?_take, if_pos hi, List.getElem?_drop]
  have e : Nat.ble (o + m) l.length = true := Nat.ble_eq_true_of_le hl
  simp only [loadA, h1, ha, hs, e, cond_true, hg]
theorem H.set_next (h : H) (b : Nat) (o : AObj) : (h.set b o).next = h.next := rfl
theorem op_storeC {b o : Nat} {l : List AV} (hx : ev F x = some (.ptr b o)) (hy : ev F y = some v) (w : WF h) (r : Cells h b l) (hs : szo P t = some 1) (h1 : v.one = true) (ho : o < l.length)
    (hk : ∀ h', Cells h' b (l.set o v) → Fr (fun c => c = b) h h' → h'.next = h.next → K F h') : OpE P X call ops [] ⟨none, .store t x y, ty, pos, af, none⟩ F h K := by
  obtain ⟨c, g1, g2⟩ := r
  refine op_store hx hy g1 hs h1 ho (hk _ ⟨c.put o v, ?_, fun i hi => ?_⟩ ((Fr.refl w).set _ (w.lt g1) fun _ => rfl) rfl)
  · rw [List.length_set]; exact obj_set_same (by simp)
  · rw [List.length_set] at hi
    rw [Tr.at_put, List.getElem?_set]
    by_cases e : i = o
    · subst e; rw [if_pos rfl, if_pos rfl, if_pos hi]
    · rw [if_neg e, if_neg (Ne.symm e)]; exact g2 i hi
theorem op_storeW {b m : Nat} {l vs : List AV} (hx : ev F x = some (.ptr b 0)) (hy : ev F y = some (.agg vs)) (w : WF h) (r : Cells h b l) (hs : szo P t = some m) (hm : vs.length = m) (hl : l.length = m) (h1 : vs.all AV.one = true)
    (hk : ∀ h', Cells h' b vs → Fr (fun c => c = b) h h' → h'.next = h.next → K F h') : OpE P X call ops [] ⟨none, .store t x y, ty, pos, af, none⟩ F h K := by
  obtain ⟨c, g1, g2⟩ := r
  have e1 : (Nat.beq (AV.agg vs).cells.length m && Nat.ble (0 + m) l.length && (AV.agg vs).cells.all AV.one) = true := by
    have h2 : (AV.agg vs).cells = vs := rfl
    rw [h2, h1]; simp [hm, hl]
  refine OpE.done (v := .tup []) (h' := h.set b (.cells l.length (puts c 0 vs))) ?_ rfl (hk _ ⟨puts c 0 vs, by rw [hm, ← hl]; exact obj_set_same (by simp), fun i hi => ?_⟩ ((Fr.refl w).set _ (w.lt g1) fun _ => rfl) rfl)
  · simp only [effA, eop, hx, hy, storeA, g1, hs, e1, cond_true, putsK_eq, H.setK_eq]; rfl
  · rw [at_puts, if_pos ⟨Nat.zero_le _, by omega⟩, Nat.sub_zero]
theorem cells_new {l : List AV} : Cells (h.new (.cells l.length (ofL l))) h.next l := ⟨ofL l, obj_new_same (by simp), fun i hi => by
  unfold ofL
  rw [at_puts, if_pos ⟨Nat.zero_le _, by omega⟩, Nat.sub_zero]⟩
theorem op_boxC {e : TypeId} (hx : ev F x = some v) (w : WF h) (hk : ∀ h' b, b = h.next → Cells h' b v.cells → Fr (fun _ => False) h h' → h'.next = h.next + 1 → K (F.put d (.ptr b 0)) h') : OpP P ops ⟨some d, .box e x, ty, pos, af, none⟩ F h K :=
  op_box hx (hk _ _ rfl cells_new ((Fr.refl w).new _) rfl)
theorem op_allocC {e : TypeId} (hz : zer P e = some v) (w : WF h) (hk : ∀ h' b, b = h.next → Cells h' b v.cells → Fr (fun _ => False) h h' → h'.next = h.next + 1 → K (F.put d (.ptr b 0)) h') : OpP P ops ⟨some d, .alloc e, ty, pos, af, none⟩ F h K :=
  op_alloc hz (hk _ _ rfl cells_new ((Fr.refl w).new _) rfl)
def RowK (h : H) (k : Nat) (v : AV) (n : Nat) (fl : List AV) : Prop := fl.length = n * k ∧
  ((v = .snil ∧ n = 0) ∨ ∃ b o m c, v = .slice b o n n k false ∧ h.obj b = some (.cells m c) ∧ o + n * k ≤ m ∧ ∀ i, i < n * k → c.at (o + i) = fl[i]?)
theorem RowK.fr {h h' : H} {k n : Nat} {fl : List AV} (r : RowK h k v n fl) (w : WF h) {B : Nat → Prop} (f : Fr B h h') (hn : ∀ b, blkOf v b → ¬ B b) : RowK h' k v n fl := by
  obtain ⟨r0, r | ⟨b, o, m, c, rfl, h1, h2⟩⟩ := r
  · exact ⟨r0, .inl r⟩
  · exact ⟨r0, .inr ⟨b, o, m, c, rfl, f.get w h1 (hn b rfl), h2⟩⟩
theorem RowK.nil (h : H) (k : Nat) : RowK h k .snil 0 [] := ⟨by simp, .inl ⟨rfl, rfl⟩⟩
theorem RowK.lt {k n : Nat} {fl : List AV} (r : RowK h k v n fl) (w : WF h) : ∀ b, blkOf v b → b < h.next := by
  obtain ⟨_, ⟨rfl, _⟩ | ⟨b, o, m, c, rfl, h1, _⟩⟩ := r
  · exact fun b hb => hb.elim
  · intro b' hb
    obtain rfl : b' = b := hb
    exact w.lt h1
theorem op_len_row {k n : Nat} {fl : List AV} {e : TypeId} (hx : ev F x = some v) (hr : RowK h k v n fl) (hu : P.underlying t = some (.slice e)) (hk : K (F.put d (.int .i64 (.ofNat n))) h) :
    OpP P ops ⟨some d, .call ⟨.builtin .len, #[x], #[t]⟩, ty, pos, af, none⟩ F h K := by
  obtain ⟨_, ⟨rfl, rfl⟩ | ⟨b, o, m, c, rfl, _⟩⟩ := hr
  · exact op_len_nil hx hu hk
  · exact op_len_slice hx hu hk
theorem op_index_row {k n j : Nat} {fl : List AV} {e : TypeId} {q : IntKind} (hx : ev F x = some v) (hr : RowK h k v n fl) (hy : ev F y = some (.int q (.ofNat j))) (hu : P.underlying t = some (.slice e)) (hs : szo P e = some k) (hj : j < n)
    (hk : ∀ b o, (∀ i u, i < k → fl[j * k + i]? = some u → ∀ t', isAg P t' = some false → loadA P h t' b (o + i) = some u) → (∀ vs t', isAg P t' = some true → szo P t' = some k → (fl.drop (j * k)).take k = vs → loadA P h t' b o = some (.agg vs)) → K (F.put d (.ptr b o)) h) :
    OpP P ops ⟨some d, .indexAddr t x y, ty, pos, af, none⟩ F h K := by
  obtain ⟨r0, ⟨rfl, rfl⟩ | ⟨b, o, m, c, rfl, h1, h2, h3⟩⟩ := hr
  · exact absurd hj (Nat.not_lt_zero _)
  · have hjk : j * k + k ≤ n * k := by
      have := Nat.mul_le_mul_right k (show j + 1 ≤ n from hj)
      rw [Nat.add_mul] at this; omega
    refine op_indexAddr hx hy hu hs hj (Nat.le_refl _) (hk b (o + j * k) (fun i u hi hu t' ha => ?_) fun vs t' ha hs' hv => ?_)
    · have := h3 (j * k + i) (by omega)
      rw [hu, ← Nat.add_assoc] at this
      exact loadA_cell ha h1 (by omega) this
    · have hvl : vs.length = k := by rw [← hv, List.length_take, List.length_drop]; omega
      have hg : gets c (o + j * k) k = some vs := gets_of hvl fun i hi => by
        rw [show o + j * k + i = o + (j * k + i) by omega, h3 _ (by omega), ← hv, List.getElem?_take, if_pos hi, List.getElem?_drop]
      have e : Nat.ble (o + j * k + k) m = true := Nat.ble_eq_true_of_le (by omega)
      simp only [loadA, h1, ha, hs', e, cond_true, hg]
theorem append_rowK {k n bytes : Nat} {fl news : List AV} (hw : WF h) (hr : RowK h k v n fl) (_hk0 : 0 < k) (hn : news.length = k) (hb : 2 * (n + 1) * bytes ≤ 281474976710656) (hb2 : n + 1 ≤ 4611686018427387904) :
    ∃ v' h', appendTo h k bytes v 1 news = some (v', h') ∧ RowK h' k v' (n + 1) (fl ++ news) ∧ Fr (blkOf v) h h' ∧ (∀ b, blkOf v' b → b = h.next) ∧ h'.next = h.next + 1 := by
  obtain ⟨r0, ⟨rfl, rfl⟩ | ⟨b, o, m, c, rfl, h1, h2, h3⟩⟩ := hr
  · have hfl : fl = [] := List.eq_nil_of_length_eq_zero (by simpa using r0)
    subst hfl
    have e1 : (Nat.ble (2 * 1 * bytes) 281474976710656 && Nat.ble 1 4611686018427387904) = true := by
      have : 2 * 1 * bytes ≤ 281474976710656 := by simpa using hb
      simp; omega
    refine ⟨.slice h.next 0 1 1 k false, h.new (.cells news.length (ofL news)), ?_, ⟨by simp [hn], .inr ⟨h.next, 0, news.length, ofL news, rfl, obj_new_same (by simp), by simp [hn], fun i hi => ?_⟩⟩, (Fr.refl hw).new _, fun b hb => hb, rfl⟩
    · unfold appendTo
      rw [forceL_eq]
      simp only [e1, cond_true, H.rowK_ofL]
      rfl
    · unfold ofL
      rw [at_puts, if_pos ⟨Nat.zero_le _, by simp at hi; omega⟩]
      simp
  · have hlt := hw.lt h1
    have hflen : (fl ++ news).length = (n + 1) * k := by rw [List.length_append, r0, hn, Nat.add_mul]; omega
    have e1 : (Nat.ble (2 * (n + 1) * bytes) 281474976710656 && Nat.ble (n + 1) 4611686018427387904) = true := by simp [hb, hb2]
    have e2 : Nat.ble (n + 1) n = false := by
      cases hh : Nat.ble (n + 1) n with
      | false => rfl
      | true => have := Nat.le_of_ble_eq_true hh; omega
    have e3 : (Nat.beq k k && Nat.ble n n) = true := by simp
    have e4 : Nat.ble (o + n * k) m = true := Nat.ble_eq_true_of_le h2
    have hj : ∃ c', joinT c o (n * k) news = some c' ∧ ∀ i, i < (n + 1) * k → c'.at i = (fl ++ news)[i]? := by
      unfold joinT
      rw [Bool.cond_eq_ite]
      split
      · rename_i h0
        have h0 : o = 0 := by simpa using h0
        subst h0
        refine ⟨_, rfl, fun i hi => ?_⟩
        rw [at_puts]
        by_cases hin : i < n * k
        · rw [if_neg (by omega), List.getElem?_append_left (by omega)]
          have := h3 i hin
          rwa [Nat.zero_add] at this
        · rw [if_pos ⟨by omega, by rw [hn]; rw [Nat.add_mul] at hi; omega⟩, List.getElem?_append_right (by omega), r0]
      · rw [gets_of (vs := fl) r0 fun i hi => h3 i hi]
        refine ⟨_, rfl, fun i hi => ?_⟩
        rw [at_puts, if_pos ⟨Nat.zero_le _, by rw [hflen]; omega⟩, Nat.sub_zero]
    obtain ⟨c', hc1, hc2⟩ := hj
    refine ⟨.slice h.next 0 (n + 1) (n + 1) k false, (h.set b .dead).new (.cells (n * k + news.length) c'), ?_, ⟨hflen, .inr ⟨h.next, 0, _, c', rfl, obj_new_same (h := h.set b .dead) (by simp), by rw [hn, Nat.add_mul]; omega, fun i hi => by rw [Nat.zero_add]; exact hc2 i hi⟩⟩,
      ((Fr.refl hw).set (B := blkOf (.slice b o n n k false)) _ hlt fun _ => (rfl : b = b)).new _, fun b hb => hb, rfl⟩
    unfold appendTo
    rw [forceL_eq]
    simp only [e1, e2, e3, e4, cond_true, cond_false, h1, joinK_eq, hc1, forceN_eq, H.setK_eq, H.newK_eq, Bool.false_and]
theorem RowK.drop {k n j : Nat} {fl : List AV} (r : RowK h k v n fl) (hj : j ≤ n) (h0 : 0 < n) : ∃ b o, v = .slice b o n n k false ∧ RowK h k (.slice b (o + j * k) (n - j) (n - j) k false) (n - j) (fl.drop (j * k)) := by
  obtain ⟨r0, ⟨rfl, rfl⟩ | ⟨b, o, m, c, rfl, h1, h2, h3⟩⟩ := r
  · exact absurd h0 (Nat.lt_irrefl _)
  · have hm : (n - j) * k = n * k - j * k := Nat.sub_mul n j k
    have hjk : j * k ≤ n * k := Nat.mul_le_mul_right k hj
    refine ⟨b, o, rfl, by rw [List.length_drop, r0, hm], .inr ⟨b, o + j * k, m, c, rfl, h1, by omega, fun i hi => ?_⟩⟩
    rw [show o + j * k + i = o + (j * k + i) by omega, h3 _ (by omega), List.getElem?_drop]
theorem bnds_lo {len cap p : Nat} {k : IntKind} (h1 : p ≤ len) : bnds len cap (some (.int k (.ofNat p))) none none = some (p, len, cap) := by
  have e1 : Nat.ble p len = true := Nat.ble_eq_true_of_le h1
  simp only [bnds, intA, e1, cond_true]
theorem RS.cell1 {s : Tmp} {tt : TypeId} {b o : Nat} {Q : AV → H → Prop} (h1 : F.at s = some (.ptr b o)) (hl : loadA P h tt b o = some v) (hq : Q v h) : RS P [.cell s tt] Q F h := ⟨[v], by simp only [resA, h1, hl], hq⟩
theorem RS.cell2 {s r : Tmp} {tt : TypeId} {b o : Nat} {u : AV} {Q : AV → H → Prop} (h1 : F.at s = some (.ptr b o)) (hl : loadA P h tt b o = some v) (h2 : F.at r = some u) (hq : Q (.tup [v, u]) h) : RS P [.cell s tt, .tmp r] Q F h := ⟨[v, u], by simp only [resA, h1, hl, h2], hq⟩
end Go.Abs
