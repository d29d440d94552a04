/- The same values and heaps, laid out before they are passed on. No condition. -/
import Derived.Laws.Cover3
import Derived.Laws.Pointers
import Derived.Laws.Small
import Derived.Laws.StructEq
import Derived.Test.YtkihpcjfhilgcaaGreatZ01
import Derived.WalkSpells
import Derived.WideLaws
namespace Go.Abs
universe u
variable {α : Type} {β : Type u}
noncomputable def forceN (n : Nat) (k : Nat → β) : β := Nat.rec (motive := fun _ => β) (k 0) (fun m _ => k (Nat.succ m)) n
theorem forceN_eq (n : Nat) (k : Nat → β) : forceN n k = k n := by cases n <;> rfl
noncomputable def forceI (n : Int) (k : Int → β) : β := Int.rec (motive := fun _ => β) (fun m => forceN m fun m' => k (.ofNat m')) (fun m => forceN m fun m' => k (.negSucc m')) n
theorem forceI_eq (n : Int) (k : Int → β) : forceI n k = k n := by
  cases n with
  | ofNat m => exact forceN_eq m fun m' => k (.ofNat m')
  | negSucc m => exact forceN_eq m fun m' => k (.negSucc m')
noncomputable def forceB (b : Bool) (k : Bool → β) : β := Bool.rec (motive := fun _ => β) (k false) (k true) b
theorem forceB_eq (b : Bool) (k : Bool → β) : forceB b k = k b := by cases b <;> rfl
noncomputable def force1 (v : AV) (k : AV → β) : β :=
  match v with
  | .bool b => forceB b fun b => k (.bool b)
  | .int t n => forceI n fun n => k (.int t n)
  | .ptr b o => forceN b fun b => forceN o fun o => k (.ptr b o)
  | .slice b o l c s e => forceN b fun b => forceN o fun o => forceN l fun l => forceN c fun c => forceN s fun s => forceB e fun e => k (.slice b o l c s e)
  | .map r => forceN r fun r => k (.map r)
  | .str s => k (.str s)
  | .pnil => k .pnil
  | .snil => k .snil
  | .mnil => k .mnil
  | .func f a b => k (.func f a b)
  | .fnil => k .fnil
  | .iface t v => k (.iface t v)
  | .inil => k .inil
  | .agg cs => k (.agg cs)
  | .tup vs => k (.tup vs)
theorem force1_eq (v : AV) (k : AV → β) : force1 v k = k v := by
  cases v <;> simp only [force1, forceN_eq, forceI_eq, forceB_eq]
noncomputable def forceL (vs : List AV) (k : List AV → β) : β :=
  List.rec (motive := fun _ => (List AV → β) → β) (fun k => k []) (fun v _ ih k => force1 v fun v' => ih fun vs' => k (v' :: vs')) vs k
theorem forceL_eq : ∀ (vs : List AV) (k : List AV → β), forceL vs k = k vs
  | [], k => rfl
  | v :: vs, k => by
    show force1 v (fun v' => forceL vs fun vs' => k (v' :: vs')) = k (v :: vs)
    rw [force1_eq, forceL_eq vs]
noncomputable def forceV (v : AV) (k : AV → β) : β :=
  match v with
  | .agg cs => forceL cs fun cs => k (.agg cs)
  | .tup cs => forceL cs fun cs => k (.tup cs)
  | .func f a b => forceL a fun a => forceL b fun b => k (.func f a b)
  | .iface t v => force1 v fun v => k (.iface t v)
  | v => force1 v k
theorem forceV_eq (v : AV) (k : AV → β) : forceV v k = k v := by
  unfold forceV
  split <;> simp only [forceL_eq, force1_eq]
noncomputable def putsK (c : Tr AV) (o : Nat) (vs : List AV) (k : Tr AV → β) : β :=
  List.rec (motive := fun _ => Tr AV → Nat → (Tr AV → β) → β) (fun c _ k => k c) (fun v _ ih c o k => c.putK o v fun c' => forceN (Nat.succ o) fun o' => ih c' o' k) vs c o k
theorem putsK_eq : ∀ (vs : List AV) (c : Tr AV) (o : Nat) (k : Tr AV → β), putsK c o vs k = k (puts c o vs)
  | [], c, o, k => rfl
  | v :: vs, c, o, k => by
    show c.putK o v (fun c' => forceN (Nat.succ o) fun o' => putsK c' o' vs k) = _
    rw [Tr.putK_eq, forceN_eq, putsK_eq vs]; rfl
noncomputable def H.setK (h : H) (b : Nat) (o : AObj) (k : H → β) : β := h.t.putK b o fun t => k ⟨t, h.next⟩
theorem H.setK_eq (h : H) (b : Nat) (o : AObj) (k : H → β) : h.setK b o k = k (h.set b o) := Tr.putK_eq _ _ _ _
noncomputable def H.newK (h : H) (o : AObj) (k : H → β) : β := h.t.putK h.next o fun t => forceN (Nat.succ h.next) fun n => k ⟨t, n⟩
theorem H.newK_eq (h : H) (o : AObj) (k : H → β) : h.newK o k = k (h.new o) := by
  unfold H.newK; rw [Tr.putK_eq, forceN_eq]; rfl
noncomputable def H.rowK (h : H) (n : Nat) (vs : List AV) (k : H → β) : β := forceL vs fun vs => putsK .nil 0 vs fun c => forceN n fun n => h.newK (.cells n c) k
theorem H.rowK_eq (h : H) (n : Nat) (vs : List AV) (k : H → β) : h.rowK n vs k = k (h.new (.cells n (puts .nil 0 vs))) := by
  unfold H.rowK; rw [forceL_eq, putsK_eq, forceN_eq, H.newK_eq]
end Go.Abs

/- Operations that look at their operands alone: what they give, and that the model gives the same. No condition. -/
namespace Go.Abs
inductive NK where
  | ptr
  | slice (len cap sz : Nat)
  | map
def NK.val : NK → Nat → AV
  | .ptr, b => .ptr b 0
  | .slice len cap sz, b => .slice b 0 len cap sz true
  | .map, b => .map b
inductive PR where
  | val (v : AV)
  | new (o : AObj) (k : NK)
def PSound (P : Program) (s : Sem Next) (ι : Io) : PR → Prop
  | .val v => ∃ u, VR ι v u ∧ ∀ w, s.run P w = .ok (.value u) w
  | .new o k => ∃ (O : Obj) (ext : Nat) (u : Nat → Value), o ≠ .dead ∧ (∀ w, s.run P w = .ok (.value (u w.heap.size)) (w.alloc O)) ∧
      (∀ (ι' : Io) (b : Nat), Ext ι ι' → ∀ n, ι' b = some ⟨n, 0, ext⟩ → VR ι' (k.val b) (u n)) ∧
      ∀ (ι' : Io) (w : World), Ext ι ι' → OR ι' ⟨w.heap.size, 0, ext⟩ (w.alloc O) o
noncomputable def ofL (l : List AV) : Tr AV := puts .nil 0 l
noncomputable def rowP (n : Nat) (l : List AV) (k : NK) : Option PR := forceL l fun l => putsK .nil 0 l fun c => forceN n fun n => some (.new (.cells n c) k)
theorem rowP_eq (n : Nat) (l : List AV) (k : NK) : rowP n l k = some (.new (.cells n (ofL l)) k) := by
  unfold rowP; rw [forceL_eq, putsK_eq, forceN_eq]; rfl
theorem OR.row {ι : Io} {w : World} {vs : List AV} {us : Array Value} {e : TypeId} (h : VRs ι vs us.toList) {n : Nat} (hn : n ≤ us.size) :
    OR ι ⟨w.heap.size, 0, us.size⟩ (w.alloc (.cells us e)) (.cells n (ofL vs)) := by
  refine ⟨hn, fun i hi => ⟨?_, ?_⟩, fun i v hi hv => ?_⟩
  · simp only [Nat.zero_add, World.cell?_alloc_new]; simp at hi; simp [hi]
  · have := heap_alloc_new w (.cells us e)
    unfold World.frozen?
    simp only [this]
    simp
  · unfold ofL at hv
    rw [at_puts] at hv
    split at hv
    · obtain ⟨u, hu, hvu⟩ := h.get (by simpa using hv)
      exact ⟨u, by simpa [World.cell?_alloc_new] using hu, hvu⟩
    · simp [Tr.at_nil] at hv
def scal : AV → Option Value
  | .bool b => some (.bool b)
  | .int k n => some (.int k n)
  | .str s => some (.string s)
  | _ => none
theorem scal_vr {ι : Io} {v : AV} {u u' : Value} (h : scal v = some u') (hv : VR ι v u) : u = u' := by
  cases hv <;> simp [scal] at h <;> exact h
def semV : Sem Value → Option AV
  | .pure v => ofV1 v
  | _ => none
theorem semV_spec {s : Sem Value} {v : AV} (h : semV s = some v) : ∃ u, s = .pure u ∧ ∀ ι, VR ι v u := by
  cases s <;> simp only [semV] at h <;> try (cases h)
  rename_i u; exact ⟨u, rfl, fun ι => ofV1_vr h⟩
def putL (cs : List AV) (off : Nat) (vs : List AV) : List AV := cs.take off ++ (vs ++ cs.drop (off + vs.length))
def fillA (place : Nat → Option (Nat × Nat)) (cells : List AV) : List (Nat × AV) → Option (List AV)
  | [] => some cells
  | (i, v) :: rest =>
    match place i with
    | none => none
    | some (off, size) => bif Nat.beq v.cells.length size && Nat.ble (off + v.cells.length) cells.length then fillA place (putL cells off v.cells) rest else none
theorem VRs.putL {ι : Io} {cs vs : List AV} {us ws : List Value} (h : VRs ι cs us) (hv : VRs ι vs ws) (off : Nat) :
    VRs ι (putL cs off vs) (us.take off ++ (ws ++ us.drop (off + ws.length))) := by
  unfold Go.Abs.putL; rw [← hv.len]; exact (h.take off).append (hv.append (h.drop _))
theorem foldl_set (vs : List Value) : ∀ (k off : Nat) (cs : Array Value), off + k + vs.length ≤ cs.size →
    ((vs.zipIdx k).foldl (fun cs (x : Value × Nat) => cs.setIfInBounds (off + x.2) x.1) cs).toList = cs.toList.take (off + k) ++ (vs ++ cs.toList.drop (off + k + vs.length)) := by
  induction vs with
  | nil => intro k off cs h; simp
  | cons v vs ih =>
    intro k off cs h
    simp only [List.zipIdx_cons, List.foldl_cons]
    rw [ih (k + 1) off (cs.setIfInBounds (off + k) v) (by simp at h ⊢; omega)]
    simp only [Array.toList_setIfInBounds, List.length_cons] at h ⊢
    have hlt : off + k < cs.toList.length := by simp; omega
    rw [show off + (k + 1) = off + k + 1 by omega, List.take_add_one]
    rw [List.take_set_of_le (Nat.le_refl _)]
    rw [List.getElem?_set_self hlt]
    rw [List.drop_set_of_lt (by omega)]
    simp only [Option.toList_some, List.append_assoc, List.cons_append, List.nil_append]
    rw [show off + k + 1 + vs.length = off + k + (vs.length + 1) by omega]
theorem fillA_spec {ι : Io} {place : Nat → Option (Nat × Nat)} : ∀ {parts : List (Nat × AV)} {parts' : List (Nat × Value)} {cells out : List AV} {cells' : Array Value},
    fillA place cells parts = some out → VRs ι cells cells'.toList → parts.length = parts'.length →
    (∀ (i : Nat) (p : Nat × AV) (p' : Nat × Value), parts[i]? = some p → parts'[i]? = some p' → p.1 = p'.1 ∧ VR ι p.2 p'.2) →
    ∃ out', Instr.fill place cells' parts' = some out' ∧ VRs ι out out'.toList
  | [], parts', cells, out, cells', h, hc, hl, hp => by
    cases parts' with
    | nil => cases h; exact ⟨cells', rfl, hc⟩
    | cons => simp at hl
  | (i, v) :: rest, parts', cells, out, cells', h, hc, hl, hp => by
    cases parts' with
    | nil => simp at hl
    | cons p' rest' =>
      obtain ⟨i', u⟩ := p'
      obtain ⟨h1, h2⟩ := hp 0 _ _ rfl rfl
      simp only at h1 h2
      subst h1
      simp only [fillA] at h
      split at h
      · cases h
      · rename_i off size hpl
        rw [Bool.cond_eq_ite] at h
        split at h
        · rename_i hcond
          simp only [Bool.and_eq_true, Nat.beq_eq, Nat.ble_eq] at hcond
          obtain ⟨hs, hb⟩ := hcond
          have hvc := h2.cells
          have hlen : u.cells.size = size := by rw [← hs, hvc.len]; simp
          have hle : off + u.cells.size ≤ cells'.size := by rw [hlen, ← hs]; have := hc.len; simp at this; omega
          have hfold := foldl_set u.cells.toList 0 off cells' (by simpa using hle)
          simp only [Nat.add_zero] at hfold
          let c2 : Array Value := (u.cells.zipIdx.foldl (fun cs (x : Value × Nat) => cs.setIfInBounds (off + x.2) x.1) cells')
          have hc2 : c2.toList = cells'.toList.take off ++ (u.cells.toList ++ cells'.toList.drop (off + u.cells.toList.length)) := by
            rw [← hfold]
            simp only [c2]
            rw [← Array.foldl_toList, Array.toList_zipIdx]
          obtain ⟨out', h3, h4⟩ := fillA_spec (ι := ι) (parts' := rest') (cells' := c2) h (by rw [hc2]; exact hc.putL hvc off) (by simpa using hl)
            (fun j p p' hj hj' => hp (j + 1) p p' (by simpa using hj) (by simpa using hj'))
          refine ⟨out', ?_, h4⟩
          simp only [Instr.fill, hpl]
          rw [if_neg (by simp; omega)]
          exact h3
        · cases h
noncomputable def evParts (F : Fm) : List (Nat × Operand) → Option (List (Nat × AV))
  | [] => some []
  | (i, x) :: r => match ev F x with
    | none => none
    | some v => match evParts F r with
      | none => none
      | some vs => some ((i, v) :: vs)
end Go.Abs

/- Operations that look at their operands alone, one by one. No condition. -/
namespace Go.Abs
theorem addr_add (b o n : Nat) : (⟨b, o, none⟩ : Addr).add n = ⟨b, o + n, none⟩ := by unfold Addr.add; split <;> simp_all
def eqInts (P : Program) (xs ys : List AV) : List Field → Option Bool
  | [] => some true
  | f :: fs =>
    bif f.name == "_" then none else
    match P.underlying f.type with
    | some (.int _) =>
      match xs[f.offset]?, ys[f.offset]? with
      | some (.int k a), some (.int k' b) =>
        bif k == k' then (match eqInts P xs ys fs with | some r => some ((a == b) && r) | none => none) else none
      | _, _ => none
    | _ => none
def isLit : Operand → Bool
  | .const _ => true
  | _ => false
def eqk (P : Program) (t : TypeId) (l : Bool) : AV → AV → Option Bool
  | .bool a, .bool b => match P.underlying t with | some .bool => some (a == b) | _ => none
  | .pnil, .pnil => match P.underlying t with | some (.pointer _) => some true | _ => none
  | .pnil, .ptr _ _ => match P.underlying t with | some (.pointer _) => some false | _ => none
  | .ptr _ _, .pnil => match P.underlying t with | some (.pointer _) => some false | _ => none
  | .inil, .inil => match P.underlying t with | some (.interface _) => bif l then some true else none | _ => none
  | .inil, .iface _ _ => match P.underlying t with | some (.interface _) => some false | _ => none
  | .iface _ _, .inil => match P.underlying t with | some (.interface _) => some false | _ => none
  | .snil, .snil => match P.underlying t with | some (.slice _) => some true | _ => none
  | .snil, .slice .. => match P.underlying t with | some (.slice _) => some false | _ => none
  | .slice .., .snil => match P.underlying t with | some (.slice _) => some false | _ => none
  | .mnil, .mnil => match P.underlying t with | some (.map _ _) => some true | _ => none
  | .mnil, .map _ => match P.underlying t with | some (.map _ _) => some false | _ => none
  | .map _, .mnil => match P.underlying t with | some (.map _ _) => some false | _ => none
  | .fnil, .fnil => match P.underlying t with | some (.func _ _ _) => some true | _ => none
  | .fnil, .func .. => match P.underlying t with | some (.func _ _ _) => some false | _ => none
  | .func .., .fnil => match P.underlying t with | some (.func _ _ _) => some false | _ => none
  | .agg xs, .agg ys => match P.underlying t with
    | some (.struct fs) => bif P.eqGuardType P.depth t || P.stoodInHeld t then none else eqInts P xs ys fs.toList
    | _ => none
  | _, _ => none
theorem eqInts_spec {P : Program} {ι : Io} (d : Nat) {xs ys : List AV} {us ws : List Value} (hx : VRs ι xs us) (hy : VRs ι ys ws) : ∀ (fs : List Field) {r : Bool} (w : World),
    eqInts P xs ys fs = some r → (Op.eqFields (d + 1) us.toArray ws.toArray fs).run P w = .ok r w
  | [], r, w, h => by cases h; simp [Op.eqFields]
  | f :: fs, r, w, h => by
    simp only [eqInts] at h
    rw [Bool.cond_eq_ite] at h
    split at h
    · cases h
    · rename_i hn
      have hn' : f.name ≠ "_" := by simpa using hn
      split at h
      · rename_i kf hu
        split at h
        · rename_i k a k' b hxa hyb
          rw [Bool.cond_eq_ite] at h
          split at h
          · rename_i hk
            have hkk : k = k' := by simpa using hk
            subst hkk
            split at h
            · rename_i r' hr
              cases h
              obtain ⟨u, hu1, hu2⟩ := hx.get hxa
              obtain ⟨v, hv1, hv2⟩ := hy.get hyb
              cases hu2; cases hv2
              have ih := eqInts_spec (P := P) (ι := ι) d hx hy fs w hr
              have hp1 : (part f.type us.toArray f.offset).run P w = .ok (.int k a) w := by simp [part, isAgg, run_underlying hu, hu1]
              have hp2 : (part f.type ws.toArray f.offset).run P w = .ok (.int k b) w := by simp [part, isAgg, run_underlying hu, hv1]
              simp only [Op.eqFields, if_pos hn', Sem.run_bind, hp1, hp2, Result.andThen_ok, run_equalIn_int w d f.type k kf a b hu]
              by_cases hab : a = b
              · simp [hab, ih]
              · simp [hab]
            · cases h
          · cases h
        · cases h
      · cases h
theorem eq_via {P : Program} {t : TypeId} {X Y : Operand} {u v : Value} {r : Bool} {w : World} (hg : ∀ op, (eqGuard op t X Y u v).run P w = .ok () w)
    (h1 : binOp .eql t u v = (do pure (.bool (← Op.equal t u v)))) (h2 : binOp .neq t u v = (do pure (.bool (!(← Op.equal t u v)))))
    (h : ∀ d, (Op.equalIn (d + 1) t u v).run P w = .ok r w) :
    (do eqGuard .eql t X Y u v; binOp .eql t u v : Sem Value).run P w = .ok (.bool r) w ∧ (do eqGuard .neq t X Y u v; binOp .neq t u v : Sem Value).run P w = .ok (.bool (!r)) w := by
  have he : (Op.equal t u v).run P w = .ok r w := h 9999
  constructor
  · simp only [Sem.run_bind, hg, Result.andThen_ok, h1, he, Sem.run_pure]
  · simp only [Sem.run_bind, hg, Result.andThen_ok, h2, he, Sem.run_pure]
set_option maxHeartbeats 4000000 in
theorem eqk_spec {P : Program} {ι : Io} {t : TypeId} {l : Bool} {x y : AV} {u v : Value} {r : Bool} {X Y : Operand} (h : eqk P t l x y = some r) (hx : VR ι x u) (hy : VR ι y v)
    (hl : l = true → isLit X = true ∨ isLit Y = true) (w : World) :
    (do eqGuard .eql t X Y u v; binOp .eql t u v : Sem Value).run P w = .ok (.bool r) w ∧ (do eqGuard .neq t X Y u v; binOp .neq t u v : Sem Value).run P w = .ok (.bool (!r)) w := by
  cases hx <;> cases hy <;> simp only [eqk] at h <;> first
    | (exact absurd h (by simp))
    | skip
  case inil.inil =>
    split at h
    · rename_i e hu
      cases l with
      | false => cases h
      | true =>
        cases h
        refine eq_via (fun op => ?_) rfl rfl (fun d => by simp only [Op.equalIn]; simp [run_underlying hu])
        rcases hl rfl with hX | hY
        · cases X <;> simp [isLit] at hX
          cases op <;> simp only [eqGuard] <;> simp
        · cases Y <;> simp [isLit] at hY
          cases op <;> simp only [eqGuard] <;> simp
    · cases h
  case agg.agg xs us h1 h2 ys ws h3 h4 =>
    split at h
    · rename_i fs hu
      rw [Bool.cond_eq_ite] at h
      split at h
      · cases h
      · rename_i hg
        simp only [Bool.or_eq_true, not_or, Bool.not_eq_true] at hg
        have hvx : VRs ι xs us.toList := ⟨by simpa using h1, fun i a u e1 e2 => h2 i a u e1 (by simpa using e2)⟩
        have hvy : VRs ι ys ws.toList := ⟨by simpa using h3, fun i a u e1 e2 => h4 i a u e1 (by simpa using e2)⟩
        have hf := eqInts_spec (P := P) 9998 hvx hvy fs.toList w h
        simp only [Array.toArray_toList] at hf
        have hfs : P.fieldsOf t = fs := by simp [Program.fieldsOf, hu]
        have he : (Op.equalIn 10000 t (.agg us) (.agg ws)).run P w = .ok r w := by
          rw [run_equalIn_struct w 9999 t us ws (by rw [hfs]; exact hu) hg.2, hfs]; exact hf
        constructor
        · simp only [Sem.run_bind, run_eqGuard_agg w .eql t X Y us ws hg.1, Result.andThen_ok, run_eql_struct, he]
        · simp only [Sem.run_bind, run_eqGuard_agg w .neq t X Y us ws hg.1, Result.andThen_ok, run_neq_struct, he]
    · cases h
  all_goals
    split at h
    · rename_i hu; cases h
      exact eq_via (fun op => by cases op <;> rfl) rfl rfl (fun d => by simp only [Op.equalIn]; simp [run_underlying hu])
    · cases h
end Go.Abs

/- Operations that look at their operands alone: the whole list. No condition. -/
namespace Go.Abs
def zer (P : Program) (t : TypeId) : Option AV :=
  match P.info? t with
  | some i => match i.zero with
    | some z => ofV z
    | none => none
  | none => none
def szo (P : Program) (t : TypeId) : Option Nat :=
  match P.info? t with
  | some i => some i.size
  | none => none
def isAg (P : Program) (t : TypeId) : Option Bool :=
  match P.underlying t with
  | some (.struct _) => some true
  | some (.array _ _) => some true
  | some _ => some false
  | none => none
theorem zer_spec {P : Program} {ι : Io} {t : TypeId} {v : AV} (h : zer P t = some v) : ∃ u, VR ι v u ∧ (∃ i, P.info? t = some i ∧ i.zero = some u) ∧ ∀ w, (zeroValue t).run P w = .ok u w := by
  unfold zer at h
  split at h
  · rename_i i hi
    split at h
    · rename_i z hz
      exact ⟨z, ofV_vr h, ⟨i, hi, hz⟩, fun w => by simp [zeroValue, run_typeInfo w hi, hz]⟩
    · cases h
  · cases h
theorem szo_spec {P : Program} {t : TypeId} {n : Nat} (h : szo P t = some n) : (∃ i, P.info? t = some i ∧ i.size = n) ∧ ∀ w, (sizeOf t).run P w = .ok n w := by
  unfold szo at h
  split at h
  · rename_i i hi; cases h
    exact ⟨⟨i, hi, rfl⟩, fun w => by simp [sizeOf, run_typeInfo w hi]⟩
  · cases h
theorem isAg_spec {P : Program} {t : TypeId} {b : Bool} (h : isAg P t = some b) : ∀ w, (Go.isAgg t).run P w = .ok b w := by
  unfold isAg at h
  split at h
  · rename_i hu; cases h; intro w; simp [Go.isAgg, run_underlying hu]
  · rename_i hu; cases h; intro w; simp [Go.isAgg, run_underlying hu]
  · rename_i d h1 h2 hu; cases h; intro w
    simp only [Go.isAgg, Sem.run_bind, run_underlying hu, Result.andThen_ok]
    rfl
  · cases h
def placeA (P : Program) (fields : Array Field) (i : Nat) : Option (Nat × Nat) :=
  match fields[i]? with
  | none => none
  | some f => match szo P f.type with
    | none => none
    | some n => some (f.offset, n)
def partA (P : Program) (t : TypeId) (cs : List AV) (off : Nat) : Option AV :=
  match isAg P t with
  | some true => match szo P t with
    | some n => some (.agg ((cs.drop off).take n))
    | none => none
  | some false => cs[off]?
  | none => none
theorem partA_spec {P : Program} {ι : Io} {t : TypeId} {cs : List AV} {us : List Value} {off : Nat} {v : AV} (h : partA P t cs off = some v) (hc : VRs ι cs us) :
    ∃ u, VR ι v u ∧ ∀ w, (part t us.toArray off).run P w = .ok u w := by
  unfold partA at h
  split at h
  · rename_i ha
    split at h
    · rename_i n hn; cases h
      refine ⟨.agg ((us.drop off).take n).toArray, VR.agg_iff.2 ⟨_, rfl, (hc.drop off).take n⟩, fun w => ?_⟩
      simp only [part, Sem.run_bind, isAg_spec ha, Result.andThen_ok, if_true, (szo_spec hn).2]
      simp only [Sem.run_pure, List.extract_toArray, List.extract_eq_take_drop]
      rw [show off + n - off = n by omega]
    · cases h
  · rename_i ha
    obtain ⟨u, hu, hv⟩ := hc.get h
    refine ⟨u, hv, fun w => ?_⟩
    simp [part, isAg_spec ha, hu]
  · cases h
def intA : AV → Option Int
  | .int _ n => some n
  | _ => none
theorem intA_spec {ι : Io} {v : AV} {n : Int} {u : Value} (h : intA v = some n) (hv : VR ι v u) : ∃ k, u = .int k n := by
  cases hv <;> simp [intA] at h
  exact ⟨_, by rw [h]⟩
def bnds (len cap : Nat) (lo hi mx : Option AV) : Option (Nat × Nat × Nat) :=
  let m : Option Nat := match mx with
    | none => some cap
    | some v => match intA v with
      | some (.ofNat i) => bif Nat.ble i cap then some i else none
      | _ => none
  match m with
  | none => none
  | some m =>
    let h : Option Nat := match hi with
      | none => (match mx with | none => some len | some _ => none)
      | some v => match intA v with
        | some (.ofNat i) => bif Nat.ble i m then some i else none
        | _ => none
    match h with
    | none => none
    | some h =>
      match lo with
      | none => some (0, h, m)
      | some v => match intA v with
        | some (.ofNat i) => bif Nat.ble i h then some (i, h, m) else none
        | _ => none
def VRo (ι : Io) : Option AV → Option Value → Prop
  | none, none => True
  | some v, some u => VR ι v u
  | _, _ => False
theorem run_sliceBound {P : Program} {k : IntKind} {i y : Nat} (h : i ≤ y) (c : BoundsCode) (w : World) : (Instr.sliceBound (.int k i) y c).run P w = .ok i w := by
  simp [Instr.sliceBound, asIntOf, h]
theorem bnds_spec {P : Program} {ι : Io} {len cap rcap : Nat} {lo hi mx : Option AV} {lo' hi' mx' : Option Value} {l h m : Nat} (hb : bnds len cap lo hi mx = some (l, h, m)) (hc : cap ≤ rcap)
    (h1 : VRo ι lo lo') (h2 : VRo ι hi hi') (h3 : VRo ι mx mx') (sl : Bool) (hlen : len ≤ cap) :
    l ≤ h ∧ h ≤ m ∧ m ≤ cap ∧ (mx = none → m = cap) ∧ ∀ w, (Instr.sliceBounds sl len rcap lo' hi' mx').run P w = .ok (l, h, if mx.isNone then rcap else m) w := by
  have ints : ∀ {v : AV} {u : Value} {i : Nat}, intA v = some (.ofNat i) → VR ι v u → ∃ k, u = .int k i := fun e hv => intA_spec e hv
  unfold bnds at hb
  cases mx with
  | none =>
    cases mx' with
    | some u => exact h3.elim
    | none =>
      simp only at hb
      cases hi with
      | none =>
        cases hi' with
        | some u => exact h2.elim
        | none =>
          simp only at hb
          cases lo with
          | none =>
            cases lo' with
            | some u => exact h1.elim
            | none =>
              cases hb
              exact ⟨Nat.zero_le _, hlen, Nat.le_refl _, fun _ => rfl, fun w => by simp [Instr.sliceBounds]⟩
          | some v =>
            cases lo' with
            | none => exact h1.elim
            | some u =>
              simp only at hb
              split at hb
              · rename_i i hi
                obtain ⟨k, rfl⟩ := ints hi h1
                rw [Bool.cond_eq_ite] at hb
                split at hb
                · rename_i hle; cases hb
                  have hle' := Nat.le_of_ble_eq_true hle
                  exact ⟨hle', hlen, Nat.le_refl _, fun _ => rfl, fun w => by simp [Instr.sliceBounds, run_sliceBound hle']⟩
                · cases hb
              · cases hb
      | some vh =>
        cases hi' with
        | none => exact h2.elim
        | some uh =>
          simp only at hb
          split at hb
          · cases hb
          · rename_i hh hhq
            split at hhq
            · rename_i ih hih
              obtain ⟨kh, rfl⟩ := ints hih h2
              rw [Bool.cond_eq_ite] at hhq
              split at hhq
              · rename_i hleh; cases hhq
                have hleh' := Nat.le_of_ble_eq_true hleh
                cases lo with
                | none =>
                  cases lo' with
                  | some u => exact h1.elim
                  | none =>
                    cases hb
                    exact ⟨Nat.zero_le _, hleh', Nat.le_refl _, fun _ => rfl, fun w => by simp [Instr.sliceBounds, run_sliceBound (Nat.le_trans hleh' hc)]⟩
                | some v =>
                  cases lo' with
                  | none => exact h1.elim
                  | some u =>
                    simp only at hb
                    split at hb
                    · rename_i i hi
                      obtain ⟨k, rfl⟩ := ints hi h1
                      rw [Bool.cond_eq_ite] at hb
                      split at hb
                      · rename_i hle; cases hb
                        have hle' := Nat.le_of_ble_eq_true hle
                        exact ⟨hle', hleh', Nat.le_refl _, fun _ => rfl, fun w => by simp [Instr.sliceBounds, run_sliceBound hle', run_sliceBound (Nat.le_trans hleh' hc)]⟩
                      · cases hb
                    · cases hb
              · cases hhq
            · cases hhq
  | some vm =>
    cases mx' with
    | none => exact h3.elim
    | some um =>
      simp only at hb
      split at hb
      · cases hb
      · rename_i mm hmq
        split at hmq
        · rename_i im him
          obtain ⟨km, rfl⟩ := ints him h3
          rw [Bool.cond_eq_ite] at hmq
          split at hmq
          · rename_i hlem; cases hmq
            have hlem' := Nat.le_of_ble_eq_true hlem
            cases hi with
            | none => simp at hb
            | some vh =>
              cases hi' with
              | none => exact h2.elim
              | some uh =>
                simp only at hb
                split at hb
                · cases hb
                · rename_i hh hhq
                  split at hhq
                  · rename_i ih hih
                    obtain ⟨kh, rfl⟩ := ints hih h2
                    rw [Bool.cond_eq_ite] at hhq
                    split at hhq
                    · rename_i hleh; cases hhq
                      have hleh' := Nat.le_of_ble_eq_true hleh
                      cases lo with
                      | none =>
                        cases lo' with
                        | some u => exact h1.elim
                        | none =>
                          cases hb
                          exact ⟨Nat.zero_le _, hleh', hlem', fun e => by simp at e, fun w => by simp [Instr.sliceBounds, run_sliceBound hleh', run_sliceBound (Nat.le_trans hlem' hc)]⟩
                      | some v =>
                        cases lo' with
                        | none => exact h1.elim
                        | some u =>
                          simp only at hb
                          split at hb
                          · rename_i i hi
                            obtain ⟨k, rfl⟩ := ints hi h1
                            rw [Bool.cond_eq_ite] at hb
                            split at hb
                            · rename_i hle; cases hb
                              have hle' := Nat.le_of_ble_eq_true hle
                              exact ⟨hle', hleh', hlem', fun e => by simp at e, fun w => by simp [Instr.sliceBounds, run_sliceBound hle', run_sliceBound hleh', run_sliceBound (Nat.le_trans hlem' hc)]⟩
                            · cases hb
                          · cases hb
                    · cases hhq
                  · cases hhq
          · cases hmq
        · cases hmq
end Go.Abs

/- Operations that look at their operands alone: what each gives. No condition. -/
namespace Go.Abs
def boolA : AV → Option Bool
  | .bool b => some b
  | _ => none
noncomputable def evo (F : Fm) : Option Operand → Option (Option AV)
  | none => some none
  | some x => match ev F x with
    | none => none
    | some v => some (some v)
def eqOp (P : Program) (op : BinOp) (t : TypeId) (x y : Operand) (a b : AV) : Option AV :=
  match op with
  | .eql => (eqk P t (isLit x || isLit y) a b).map .bool
  | .neq => (eqk P t (isLit x || isLit y) a b).map fun r => .bool (!r)
  | _ => none
def binA (P : Program) (op : BinOp) (t : TypeId) (x y : Operand) (a b : AV) : Option AV :=
  match scal a, scal b with
  | some u, some v => match semV (binOp op t u v) with
    | some r => some r
    | none => eqOp P op t x y a b
  | _, _ => eqOp P op t x y a b
def convA (P : Program) (src dst : TypeId) (a : AV) : Option AV :=
  match P.underlying src, P.underlying dst, a with
  | some _, some (.int k), .int _ n => some (.int k (k.wrap n))
  | some _, some .string, .str s => some (.str s)
  | _, _, _ => none
noncomputable def sliceA (P : Program) (t : TypeId) (x : AV) (lo hi mx : Option AV) : Option AV :=
  match P.underlying t, x with
  | some (.array n e), .ptr b o =>
    match bnds n n lo hi mx, szo P e with
    | some (l, h, m), some s => some (.slice b (o + l * s) (h - l) (m - l) s true)
    | _, _ => none
  | some .string, .str s =>
    match mx with
    | some _ => none
    | none => match bnds s.size s.size lo hi none with
      | some (l, h, _) => some (.str (s.extract l h))
      | none => none
  | some (.slice e), .snil =>
    match bnds 0 0 lo hi mx, szo P e with
    | some _, some _ => some .snil
    | _, _ => none
  | some (.slice e), .slice b o len cap s ex =>
    match bnds len cap lo hi mx, szo P e with
    | some (l, h, m), some s' => bif Nat.beq s s' && Nat.ble len cap then some (.slice b (o + l * s) (h - l) (m - l) s (match mx with | none => ex | some _ => true)) else none
    | _, _ => none
  | some (.pointer arr), .ptr b o =>
    match P.underlying arr with
    | some (.array n e) =>
      match bnds n n lo hi mx, szo P e with
      | some (l, h, m), some s => some (.slice b (o + l * s) (h - l) (m - l) s true)
      | _, _ => none
    | _ => none
  | _, _ => none
def lenA (P : Program) (t : TypeId) : AV → Option AV
  | .str s => match P.underlying t with | some .string => some (.int .i64 s.size) | _ => none
  | .slice _ _ n _ _ _ => match P.underlying t with | some (.slice _) => some (.int .i64 n) | _ => none
  | .snil => match P.underlying t with | some (.slice _) => some (.int .i64 0) | _ => none
  | .mnil => match P.underlying t with | some (.map _ _) => some (.int .i64 0) | _ => none
  | _ => match P.underlying t with
    | some (.array n _) => some (.int .i64 n)
    | some (.pointer a) => match P.underlying a with | some (.array n _) => some (.int .i64 n) | _ => none
    | _ => none
def minA : List AV → Option AV
  | [.int k x, .int _ y] => some (.int k (if y < x then y else x))
  | _ => none
def maxA : List AV → Option AV
  | [.int k x, .int _ y] => some (.int k (if y > x then y else x))
  | _ => none
def natA : Int → Option Nat
  | .ofNat n => some n
  | _ => none
noncomputable def pop (P : Program) (F : Fm) : Op → Option PR
  | .move x | .assign x => (ev F x).map .val
  | .pick c a b => match ev F c with
    | some (.bool true) => (ev F a).map .val
    | some (.bool false) => (ev F b).map .val
    | _ => none
  | .alloc t => match zer P t with
    | some z => rowP z.cells.length z.cells .ptr
    | none => none
  | .box _ x => match ev F x with
    | some v => rowP v.cells.length v.cells .ptr
    | none => none
  | .build t parts => match zer P t, P.underlying t, evParts F parts.toList with
    | some z, some (.struct fields), some ps =>
      match fillA (placeA P fields) z.cells ps with
      | some cs => bif fields.toList.all (fun f => (szo P f.type).isSome) then some (.val (.agg cs)) else none
      | none => none
    | some z, some (.array _ e), some ps => match szo P e with
      | some s => (fillA (fun i => some (i * s, s)) z.cells ps).map fun cs => .val (.agg cs)
      | none => none
    | _, _, _ => none
  | .buildSlice t len parts => match P.underlying t with
    | some (.slice e) => match szo P e, zer P e, evParts F parts.toList with
      | some s, some z, some ps =>
        bif Nat.ble (len * s) 16777216 && Nat.beq z.cells.length s && Nat.blt 0 s then
          match fillA (fun i => some (i * s, s)) (List.replicate len z.cells).flatten ps with
          | some cs => rowP cs.length cs (.slice len len s)
          | none => none
        else none
      | _, _, _ => none
    | _ => none
  | .nilCheck x => match ev F x with
    | some (.ptr b o) => some (.val (.ptr b o))
    | some (.slice b o l c s e) => some (.val (.slice b o l c s e))
    | some (.map r) => some (.val (.map r))
    | some (.iface t v) => some (.val (.iface t v))
    | some (.func (.func f) a b) => some (.val (.func (.func f) a b))
    | _ => none
  | .binOp op t x y _ => match ev F x, ev F y with
    | some a, some b => (binA P op t x y a b).map .val
    | _, _ => none
  | .unOp op _ x => match ev F x with
    | some a => match scal a with
      | some u => (semV (Op.unary op u)).map .val
      | none => none
    | none => none
  | .convert src dst x => match ev F x with
    | some a => (convA P src dst a).map .val
    | none => none
  | .makeInterface t x => match P.underlying t, ev F x with
    | some (.interface _), _ => none
    | some _, some v => some (.val (.iface t v))
    | _, _ => none
  | .makeFunc (.func f) first cap => match evs F first.toList, evs F cap.toList with
    | some a, some b => some (.val (.func (.func f) a b))
    | _, _ => none
  | .makeMap _ none => some (.new (.map [] 0) .map)
  | .makeMap t (some x) => match P.underlying t, ev F x with
    | some (.map _ _), some (.int _ _) => some (.new (.map [] 0) .map)
    | _, _ => none
  | .makeSlice t l c => match P.underlying t, ev F l, ev F c with
    | some (.slice e), some (.int .i64 (.ofNat l)), some (.int .i64 (.ofNat c)) =>
      match P.info? e, zer P e with
      | some i, some z => bif Nat.ble l c && Nat.ble (i.bytes * c) 281474976710656 && Nat.beq z.cells.length i.size && Nat.blt 0 i.size && Nat.blt c 9223372036854775808 then
          rowP (c * i.size) (List.replicate c z.cells).flatten (.slice l c i.size) else none
      | _, _ => none
    | _, _, _ => none
  | .slice t x lo hi mx => match ev F x, evo F lo, evo F hi, evo F mx with
    | some v, some l, some h, some m => (sliceA P t v l h m).map .val
    | _, _, _, _ => none
  | .fieldAddr t x f => match P.underlying t, ev F x with
    | some (.struct fs), some (.ptr b o) => match fs[f]? with
      | some fl => match szo P fl.type with
        | some (_ + 1) => some (.val (.ptr b (o + fl.offset)))
        | _ => none
      | none => none
    | _, _ => none
  | .field t x f => match P.underlying t, ev F x with
    | some (.struct fs), some (.agg cs) => match fs[f]? with
      | some fl => (partA P fl.type cs fl.offset).map .val
      | none => none
    | _, _ => none
  | .indexAddr t x i => match P.underlying t, ev F x, ev F i with
    | some (.array n e), some (.ptr b o), some (.int _ (.ofNat j)) => bif Nat.blt j n then (match szo P e with | some s => some (.val (.ptr b (o + j * s))) | none => none) else none
    | some (.slice e), some (.slice b o n c s _), some (.int _ (.ofNat j)) => bif Nat.blt j n && Nat.ble n c then (match szo P e with | some s' => bif Nat.beq s s' then some (.val (.ptr b (o + j * s))) else none | none => none) else none
    | _, _, _ => none
  | .index t x i => match P.underlying t, ev F x, ev F i with
    | some (.array n e), some (.agg cs), some (.int _ (.ofNat j)) => bif Nat.blt j n then (match szo P e with | some s => (partA P e cs (j * s)).map .val | none => none) else none
    | some .string, some (.str s), some (.int _ (.ofNat j)) => match s[j]? with
      | some b => some (.val (.int .u8 b.toNat))
      | none => none
    | _, _, _ => none
  | .typeAssert x _ asserted ok => match P.underlying asserted, ev F x with
    | some (.interface _), _ => none
    | some _, some (.iface t v) => bif Nat.beq t asserted then some (.val (bif ok then .tup [v, .bool true] else v)) else (bif ok then (match zer P asserted with
      | some z => some (.val (.tup [z, .bool false]))
      | none => none) else none)
    | _, _ => none
  | .extract t i => match ev F t with
    | some (.tup vs) => (vs[i]?).map .val
    | _ => none
  | .call c => match c.callee with
    | .builtin .len => match evs F c.args.toList, c.argTypes[0]? with
      | some [x], some t => (lenA P t x).map .val
      | _, _ => none
    | .builtin .cap => match evs F c.args.toList, c.argTypes[0]? with
      | some [.snil], some t => match P.underlying t with | some (.slice _) => some (.val (.int .i64 0)) | _ => none
      | some [.slice _ _ _ cp _ true], some t => match P.underlying t with | some (.slice _) => some (.val (.int .i64 cp)) | _ => none
      | _, _ => none
    | .builtin .min => match evs F c.args.toList with | some vs => (minA vs).map .val | none => none
    | .builtin .max => match evs F c.args.toList with | some vs => (maxA vs).map .val | none => none
    | _ => none
  | _ => none
end Go.Abs

/- Operations that look at their operands alone: the model gives what 'pop' says. No condition. -/
namespace Go.Abs
variable {P : Program} {ι : Io} {F : Fm} {a : Act}
theorem PSound.of {s : Sem Next} {v : AV} {u : Value} (h : VR ι v u) (hr : ∀ w, s.run P w = .ok (.value u) w) : PSound P s ι (.val v) := ⟨u, h, hr⟩
theorem PSound.map {s : Sem Next} {x : Option AV} {r : PR} (h : x.map PR.val = some r) (hx : ∀ v, x = some v → ∃ u, VR ι v u ∧ ∀ w, s.run P w = .ok (.value u) w) : PSound P s ι r := by
  cases x with
  | none => cases h
  | some v => cases h; obtain ⟨u, h1, h2⟩ := hx v rfl; exact ⟨u, h1, h2⟩
theorem binA_spec {op : BinOp} {t : TypeId} {x y : Operand} {p q v : AV} {u w' : Value} (h : binA P op t x y p q = some v) (hp : VR ι p u) (hq : VR ι q w') :
    ∃ r, VR ι v r ∧ ∀ w, (do eqGuard op t x y u w'; binOp op t u w' : Sem Value).run P w = .ok r w := by
  have eqs : eqOp P op t x y p q = some v → ∃ r, VR ι v r ∧ ∀ w, (do eqGuard op t x y u w'; binOp op t u w' : Sem Value).run P w = .ok r w := by
    intro h
    unfold eqOp at h
    split at h
    · cases he : eqk P t (isLit x || isLit y) p q with
      | none => rw [he] at h; cases h
      | some r => rw [he] at h; cases h; exact ⟨_, .bool r, fun w => (eqk_spec he hp hq (by simp) w).1⟩
    · cases he : eqk P t (isLit x || isLit y) p q with
      | none => rw [he] at h; cases h
      | some r => rw [he] at h; cases h; exact ⟨_, .bool _, fun w => (eqk_spec he hp hq (by simp) w).2⟩
    · cases h
  unfold binA at h
  split at h
  · rename_i u1 v1 hs1 hs2
    obtain rfl := scal_vr hs1 hp
    obtain rfl := scal_vr hs2 hq
    split at h
    · rename_i r hr; cases h
      obtain ⟨z, hz, hv⟩ := semV_spec hr
      refine ⟨z, hv ι, fun w => ?_⟩
      have hg : (eqGuard op t x y u w').run P w = .ok () w := by
        cases hp <;> simp [scal] at hs1 <;> cases hq <;> simp [scal] at hs2 <;> cases op <;> rfl
      simp only [Sem.run_bind, hg, Result.andThen_ok, hz, Sem.run_pure']
    · exact eqs h
  · exact eqs h
theorem convA_spec {src dst : TypeId} {p v : AV} {u : Value} (h : convA P src dst p = some v) (hp : VR ι p u) : ∃ r, VR ι v r ∧ ∀ w, (convert src dst u).run P w = .ok r w := by
  unfold convA at h
  split at h
  · rename_i d k hs hd; cases h; cases hp
    exact ⟨_, .int _ _, fun w => by simp only [convert, Sem.run_bind, run_underlying hs, run_underlying hd, Result.andThen_ok]; rfl⟩
  · rename_i d hs hd; cases h; cases hp
    exact ⟨_, .str _, fun w => by simp only [convert, Sem.run_bind, run_underlying hs, run_underlying hd, Result.andThen_ok]; rfl⟩
  · cases h
theorem evo_spec (hf : FR ι F a.tmps) {x : Option Operand} {v : Option AV} (h : evo F x = some v) : VRo ι v (x.map a.eval) := by
  cases x with
  | none => simp only [evo] at h; cases h; trivial
  | some x =>
    simp only [evo] at h
    split at h
    · cases h
    · rename_i v hv; cases h; exact hf.ev hv
theorem sliceA_spec {t : TypeId} {x v : AV} {lo hi mx : Option AV} {u : Value} {lo' hi' mx' : Option Value} (h : sliceA P t x lo hi mx = some v) (hx : VR ι x u)
    (h1 : VRo ι lo lo') (h2 : VRo ι hi hi') (h3 : VRo ι mx mx') : ∃ r, VR ι v r ∧ ∀ w, (Instr.sliceAt t u lo' hi' mx').run P w = .ok r w := by
  unfold sliceA at h
  split at h
  · -- an array's address
    rename_i n e b o hu
    split at h
    · rename_i l hh m s hb hs
      cases h
      cases hx with | ptr hp => ?_
      rename_i p
      obtain ⟨g1, g2, g3, g4, g5⟩ := bnds_spec (P := P) hb (Nat.le_refl _) h1 h2 h3 false (Nat.le_refl _)
      have hm : (if mx.isNone then n else m) = m := by cases mx <;> simp; exact (g4 rfl).symm
      rw [hm] at g5
      refine ⟨.slice (some (if m = l then ⟨p.blk, p.base + o, none⟩ else (⟨p.blk, p.base + o, none⟩ : Addr).add (l * s))) (hh - l) (m - l), .slice (by omega) (Nat.le_refl _) (fun _ => rfl) (fun hr => ⟨p, hp, ?_, by simp⟩) (by simp), fun w => ?_⟩
      · rw [if_neg (by omega), addr_add, Nat.add_assoc]
      · simp [Instr.sliceAt, run_underlying hu, Instr.sureAddr, g5, (szo_spec hs).2]
    · cases h
  · -- a string
    rename_i s hu
    split at h
    · cases h
    · split at h
      · rename_i l hh m hb; cases h; cases hx
        cases mx' with
        | some u => exact h3.elim
        | none =>
          obtain ⟨g1, g2, g3, g4, g5⟩ := bnds_spec (P := P) hb (Nat.le_refl _) h1 h2 h3 false (Nat.le_refl _)
          refine ⟨_, .str _, fun w => ?_⟩
          simp [Instr.sliceAt, Instr.slice, run_underlying hu, g5]
      · cases h
  · -- the nil slice
    rename_i e hu
    split at h
    · rename_i q s hb hs; cases h; cases hx
      obtain ⟨l, hh, m⟩ := q
      obtain ⟨g1, g2, g3, g4, g5⟩ := bnds_spec (P := P) hb (Nat.le_refl _) h1 h2 h3 true (Nat.le_refl _)
      refine ⟨_, .snil, fun w => ?_⟩
      have hl : l = 0 := by omega
      have hh0 : hh = 0 := by omega
      have hm : m = 0 := by omega
      subst hl; subst hh0; subst hm
      simp [Instr.sliceAt, Instr.slice, run_underlying hu, g5, (szo_spec hs).2]
    · cases h
  · -- a slice
    rename_i e b o len cap s ex hu
    split at h
    · rename_i l hh m s' hb hs
      rw [Bool.cond_eq_ite] at h
      split at h
      · rename_i hc
        simp only [Bool.and_eq_true, Nat.beq_eq, Nat.ble_eq] at hc
        obtain ⟨rfl, hlc⟩ := hc
        cases h
        cases hx with | slice q1 q2 q3 q4 q5 => ?_
        rename_i ad rcap
        obtain ⟨g1, g2, g3, g4, g5⟩ := bnds_spec (P := P) hb q2 h1 h2 h3 true hlc
        refine ⟨.slice (some (if (if mx.isNone then rcap else m) = l then ad else ad.add (l * s))) (hh - l) ((if mx.isNone then rcap else m) - l), .slice (by omega) ?_ ?_ ?_ ?_, fun w => ?_⟩
        · cases mx <;> simp <;> have := g4 <;> simp at this <;> omega
        · cases mx with
          | none => intro hex; have := q3 hex; have := g4 rfl; simp; omega
          | some _ => intro _; simp
        · intro hr
          have hrc : 0 < rcap := by cases mx <;> simp at hr <;> omega
          obtain ⟨p, hp, ha, hex⟩ := q4 hrc
          refine ⟨p, hp, ?_, fun he => ?_⟩
          · rw [if_neg (by omega), ha, addr_add, Nat.add_assoc]
          · cases mx with
            | none =>
              have := hex he
              have hm := g4 rfl
              simp only [Option.isNone_none, if_true]
              have : l * s + (rcap - l) * s = rcap * s := by rw [← Nat.add_mul]; congr 1; omega
              omega
            | some _ => simp at he
        · cases mx with
          | none => exact q5
          | some _ => intro he; simp at he
        · simp [Instr.sliceAt, Instr.slice, run_underlying hu, g5, (szo_spec hs).2]
          split <;> (split <;> rfl)
      · cases h
    · cases h
  · -- a pointer to an array
    rename_i arr b o hu
    split at h
    · rename_i n e hua
      split at h
      · rename_i l hh m s hb hs
        cases h
        cases hx with | ptr hp => ?_
        rename_i p
        obtain ⟨g1, g2, g3, g4, g5⟩ := bnds_spec (P := P) hb (Nat.le_refl _) h1 h2 h3 false (Nat.le_refl _)
        have hm : (if mx.isNone then n else m) = m := by cases mx <;> simp; exact (g4 rfl).symm
        rw [hm] at g5
        refine ⟨.slice (some (if m = l then ⟨p.blk, p.base + o, none⟩ else (⟨p.blk, p.base + o, none⟩ : Addr).add (l * s))) (hh - l) (m - l), .slice (by omega) (Nat.le_refl _) (fun _ => rfl) (fun hr => ⟨p, hp, ?_, by simp⟩) (by simp), fun w => ?_⟩
        · rw [if_neg (by omega), addr_add, Nat.add_assoc]
        · simp [Instr.sliceAt, Instr.slice, run_underlying hu, run_underlying hua, asAddr, g5, (szo_spec hs).2]
      · cases h
    · cases h
  · cases h
theorem lenA_spec {t : TypeId} {x v : AV} {u : Value} (h : lenA P t x = some v) (hx : VR ι x u) (ts : Array TypeId) (hts : ts[0]? = some t) (ty : TypeId) :
    ∃ r, VR ι v r ∧ ∀ w, (Builtin.len_ ts ty #[u]).run P w = .ok r w := by
  unfold lenA at h
  cases hx <;> simp only at h <;> split at h <;> first
    | (cases h; rename_i hu; exact ⟨_, .int _ _, fun w => by simp [Builtin.len_, hts, run_underlying hu, goInt]⟩)
    | (cases h; done)
    | (split at h
       · cases h; rename_i hu _ _ _ hua; exact ⟨_, .int _ _, fun w => by simp [Builtin.len_, hts, run_underlying hu, run_underlying hua, goInt]⟩
       · cases h)
theorem minA_spec {xs : List AV} {v : AV} {us : List Value} (h : minA xs = some v) (hx : VRs ι xs us) (ts : Array TypeId) (ty : TypeId) :
    ∃ r, VR ι v r ∧ ∀ w, (Builtin.min_ ts ty us.toArray).run P w = .ok r w := by
  unfold minA at h
  split at h
  · cases h
    obtain ⟨u1, us1, rfl, hv1, hs1⟩ := hx.head
    obtain ⟨u2, us2, rfl, hv2, hs2⟩ := hs1.head
    obtain rfl := hs2.isNil
    cases hv1; cases hv2
    exact ⟨_, .int _ _, fun w => by simp [Builtin.min_, Builtin.min2]⟩
  · cases h
theorem maxA_spec {xs : List AV} {v : AV} {us : List Value} (h : maxA xs = some v) (hx : VRs ι xs us) (ts : Array TypeId) (ty : TypeId) :
    ∃ r, VR ι v r ∧ ∀ w, (Builtin.max_ ts ty us.toArray).run P w = .ok r w := by
  unfold maxA at h
  split at h
  · cases h
    obtain ⟨u1, us1, rfl, hv1, hs1⟩ := hx.head
    obtain ⟨u2, us2, rfl, hv2, hs2⟩ := hs1.head
    obtain rfl := hs2.isNil
    cases hv1; cases hv2
    exact ⟨_, .int _ _, fun w => by simp [Builtin.max_, Builtin.max2]⟩
  · cases h
theorem evParts_spec (hf : FR ι F a.tmps) : ∀ {xs : List (Nat × Operand)} {ps : List (Nat × AV)}, evParts F xs = some ps →
    ps.length = xs.length ∧ ∀ (i : Nat) (p : Nat × AV) (x : Nat × Operand), ps[i]? = some p → xs[i]? = some x → p.1 = x.1 ∧ VR ι p.2 (a.eval x.2)
  | [], ps, h => by cases h; exact ⟨rfl, fun i p x h => by simp at h⟩
  | (j, x) :: r, ps, h => by
    simp only [evParts] at h
    split at h
    · cases h
    · rename_i v hv
      split at h
      · cases h
      · rename_i vs hvs; cases h
        obtain ⟨h1, h2⟩ := evParts_spec hf hvs
        refine ⟨by simp [h1], fun i p y h3 h4 => ?_⟩
        cases i with
        | zero => simp at h3 h4; subst h3; subst h4; exact ⟨rfl, hf.ev hv⟩
        | succ i => simp at h3 h4; exact h2 i p y h3 h4
theorem evParts_vr (hf : FR ι F a.tmps) {xs : Array (Nat × Operand)} {ps : List (Nat × AV)} (h : evParts F xs.toList = some ps) :
    ps.length = (xs.map fun (i, x) => (i, a.eval x)).toList.length ∧
      ∀ (i : Nat) (p : Nat × AV) (p' : Nat × Value), ps[i]? = some p → (xs.map fun (i, x) => (i, a.eval x)).toList[i]? = some p' → p.1 = p'.1 ∧ VR ι p.2 p'.2 := by
  obtain ⟨h1, h2⟩ := evParts_spec hf h
  refine ⟨by simp [h1], fun i p p' h3 h4 => ?_⟩
  simp only [Array.toList_map, List.getElem?_map, Option.map_eq_some_iff] at h4
  obtain ⟨y, h5, rfl⟩ := h4
  exact h2 i p y h3 h5
theorem zeros_eq (z : Array Value) (len s : Nat) (hz : z.size = s) (hs : 0 < s) : ((Array.range (len * s)).map (fun i => z[i % z.size]!)).toList = (List.replicate len z.toList).flatten := by
  subst hz
  induction len with
  | zero => simp
  | succ n ih =>
    rw [List.replicate_succ', List.flatten_append, ← ih]
    apply List.ext_getElem?
    intro i
    simp only [Array.toList_map, Array.toList_range, List.flatten_cons, List.flatten_nil, List.append_nil]
    rw [List.getElem?_append]
    simp only [List.length_map, List.length_range, List.getElem?_map]
    by_cases h : i < n * z.size
    · rw [if_pos h, List.getElem?_range (by rw [Nat.add_mul]; omega), List.getElem?_range h]
    · rw [if_neg h]
      by_cases h2 : i < (n + 1) * z.size
      · rw [List.getElem?_range h2]
        have hlt : i - n * z.size < z.size := by rw [Nat.add_mul] at h2; omega
        have hmod : i % z.size = i - n * z.size := by
          have : i = (i - n * z.size) + n * z.size := by omega
          rw [this, Nat.add_mul_mod_self_right, Nat.mod_eq_of_lt hlt]; omega
        simp only [Option.map_some, hmod]
        rw [getElem!_pos z _ hlt]; simp [hlt]
      · have h3 : z.size ≤ i - n * z.size := by rw [Nat.add_mul] at h2; omega
        simp [h2, h3]
theorem VRs.replicate {vs : List AV} {us : List Value} (h : VRs ι vs us) : ∀ n, VRs ι (List.replicate n vs).flatten (List.replicate n us).flatten
  | 0 => .nil _
  | n + 1 => by simp only [List.replicate_succ, List.flatten_cons]; exact h.append (VRs.replicate h n)
end Go.Abs
