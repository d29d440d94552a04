/- Code with open values: its run shown step by step. No condition. -/
import Derived.Test.YtkihpcjfhilgcaaGreatZ07
import Derived.Test.YtkihpcjfhilgcaaGreatZ09
namespace Go.Abs
variable {P : Program} {X : Ext0} {call : CallA} {L n : Nat}
def Gives (P : Program) (X : Ext0) (call : CallA) (L n : Nat) (c : Code) (F : Fm) (h : H) (N : Fm → H → Prop) (B : Ex → Fm → H → Prop) : Prop :=
  ∃ ex F' h', execC P X call L n false c F [] h = some ⟨ex, F', [], h'⟩ ∧ (match ex with | .normal => N F' h' | e => B e F' h')
variable {F : Fm} {h : H} {N : Fm → H → Prop} {B : Ex → Fm → H → Prop}
theorem Gives.seq {a b : Code} (h1 : Gives P X call L n a F h (fun F' h' => Gives P X call L n b F' h' N B) B) : Gives P X call L n (.seq a b) F h N B := by
  obtain ⟨ex, F', h', e, q⟩ := h1
  cases ex with
  | normal => obtain ⟨ex2, F2, h2, e2, q2⟩ := q; exact ⟨ex2, F2, h2, by simp only [execC, e, e2], q2⟩
  | exit id => exact ⟨.exit id, F', h', by simp only [execC, e], q⟩
  | ret => exact ⟨.ret, F', h', by simp only [execC, e], q⟩
theorem Gives.cond {c : Operand} {x y : Code} {b : Bool} (hc : ev F c = some (.bool b)) (h1 : b = true → Gives P X call L n x F h N B) (h2 : b = false → Gives P X call L n y F h N B) : Gives P X call L n (.cond c x y) F h N B := by
  cases b with
  | true => obtain ⟨ex, F', h', e, q⟩ := h1 rfl; exact ⟨ex, F', h', by simp only [execC, hc, e], q⟩
  | false => obtain ⟨ex, F', h', e, q⟩ := h2 rfl; exact ⟨ex, F', h', by simp only [execC, hc, e], q⟩
theorem Gives.then_ {c : Operand} {x y : Code} (hc : ev F c = some (.bool true)) (h1 : Gives P X call L n x F h N B) : Gives P X call L n (.cond c x y) F h N B := .cond hc (fun _ => h1) (fun e => by cases e)
theorem Gives.else_ {c : Operand} {x y : Code} (hc : ev F c = some (.bool false)) (h1 : Gives P X call L n y F h N B) : Gives P X call L n (.cond c x y) F h N B := .cond hc (fun e => by cases e) (fun _ => h1)
def blk (id : Nat) (N : Fm → H → Prop) (B : Ex → Fm → H → Prop) : Ex → Fm → H → Prop
  | .exit j => fun F h => bif Nat.beq j id then N F h else B (.exit j) F h
  | .ret => B .ret
  | .normal => fun _ _ => False
theorem Gives.block {id : Nat} {b : Code} (h1 : Gives P X call L n b F h N (blk id N B)) : Gives P X call L n (.block id b) F h N B := by
  obtain ⟨ex, F', h', e, q⟩ := h1
  cases ex with
  | normal => exact ⟨.normal, F', h', by simp only [execC, e], q⟩
  | ret => exact ⟨.ret, F', h', by simp only [execC, e], q⟩
  | exit j =>
    simp only [blk] at q
    cases hj : Nat.beq j id with
    | true => rw [hj] at q; exact ⟨.normal, F', h', by simp only [execC, e, hj, cond_true], q⟩
    | false => rw [hj] at q; exact ⟨.exit j, F', h', by simp only [execC, e, hj, cond_false], q⟩
theorem Gives.skip (h1 : N F h) : Gives P X call L n .skip F h N B := ⟨.normal, F, h, rfl, h1⟩
theorem Gives.exit {id : Nat} (h1 : B (.exit id) F h) : Gives P X call L n (.exit id) F h N B := ⟨.exit id, F, h, rfl, h1⟩
theorem Gives.ret (h1 : B .ret F h) : Gives P X call L n .ret F h N B := ⟨.ret, F, h, rfl, h1⟩
theorem Gives.exit_same {id : Nat} {N' : Fm → H → Prop} (h1 : N' F h) : Gives P X call L n (.exit id) F h N (blk id N' B) :=
  .exit (by simp only [blk, Nat.beq_refl, cond_true]; exact h1)
theorem Gives.exit_other {id j : Nat} {N' : Fm → H → Prop} (hj : Nat.beq j id = false) (h1 : B (.exit j) F h) : Gives P X call L n (.exit j) F h N (blk id N' B) :=
  .exit (by simp only [blk, hj, cond_false]; exact h1)
theorem Gives.loop {b : Code} {I : Nat → Fm → H → Prop} (step : ∀ k F h, I k F h → Gives P X call L n b F h (fun F' h' => ∃ j, j < k ∧ I j F' h') B) {k : Nat} (hk : k < L) (h0 : I k F h) : Gives P X call L n (.loop b) F h N B := by
  have key : ∀ m k F h, k < m → I k F h → ∃ ex F' h', loopA (execC P X call L n false b) m F [] h = some ⟨ex, F', [], h'⟩ ∧ ex ≠ .normal ∧ (match ex with | .normal => True | e => B e F' h') := by
    intro m
    induction m with
    | zero => intro k F h hk; omega
    | succ m ih =>
      intro k F h hk hI
      obtain ⟨ex, F', h', e, q⟩ := step k F h hI
      cases ex with
      | normal =>
        obtain ⟨j, hj, q⟩ := q
        obtain ⟨ex2, F2, h2, e2, q2⟩ := ih j F' h' (by omega) q
        exact ⟨ex2, F2, h2, by simp only [loopA, e, e2], q2⟩
      | exit id => exact ⟨.exit id, F', h', by simp only [loopA, e], by simp, q⟩
      | ret => exact ⟨.ret, F', h', by simp only [loopA, e], by simp, q⟩
  obtain ⟨ex, F', h', e, hn, q⟩ := key L k F h hk h0
  refine ⟨ex, F', h', by simp only [execC, e], ?_⟩
  cases ex with
  | normal => exact (hn rfl).elim
  | exit id => exact q
  | ret => exact q
theorem Gives.mono {c : Code} {N' : Fm → H → Prop} {B' : Ex → Fm → H → Prop} (h1 : Gives P X call L n c F h N B) (hN : ∀ F h, N F h → N' F h) (hB : ∀ e F h, B e F h → B' e F h) : Gives P X call L n c F h N' B' := by
  obtain ⟨ex, F', h', e, q⟩ := h1
  refine ⟨ex, F', h', e, ?_⟩
  cases ex with
  | normal => exact hN _ _ q
  | exit id => exact hB _ _ _ q
  | ret => exact hB _ _ _ q
def samePS : PS → PS → Bool
  | .p i, .p j => Nat.beq i j
  | .r i, .r j => Nat.beq i j
  | .e i a, .e j b => Nat.beq i j && sameNs a b
  | _, _ => false
  where sameNs : List Nat → List Nat → Bool
  | [], [] => true
  | x :: a, y :: b => Nat.beq x y && sameNs a b
  | _, _ => false
def samePl : List PS → List PS → Bool
  | [], [] => true
  | x :: a, y :: b => samePS x y && samePl a b
  | _, _ => false
theorem sameNs_eq : ∀ {a b : List Nat}, samePS.sameNs a b = true → a = b
  | [], [], _ => rfl
  | x :: a, y :: b, h => by
    simp only [samePS.sameNs, Bool.and_eq_true] at h
    rw [Nat.eq_of_beq_eq_true h.1, sameNs_eq h.2]
  | [], _ :: _, h => by cases h
  | _ :: _, [], h => by cases h
theorem samePS_eq {a b : PS} (h : samePS a b = true) : a = b := by
  cases a <;> cases b <;> first
    | cases h
    | (simp only [samePS] at h; rw [Nat.eq_of_beq_eq_true h])
    | (simp only [samePS, Bool.and_eq_true] at h; rw [Nat.eq_of_beq_eq_true h.1, sameNs_eq h.2])
theorem samePl_eq : ∀ {a b : List PS}, samePl a b = true → a = b
  | [], [], _ => rfl
  | x :: a, y :: b, h => by
    simp only [samePl, Bool.and_eq_true] at h
    rw [samePS_eq h.1, samePl_eq h.2]
  | [], _ :: _, h => by cases h
  | _ :: _, [], h => by cases h
def planB (P : Program) (n : Nat) (ops : Array Oper) (draw : Bool) (pl : List PS) : Bool :=
  bif draw then chkPlan ops n (wOf (mkPlan P ops)) [] [] [] [] (mkPlan P ops) && samePl (mkPlan P ops) pl else dstsOk n ops.toList && samePl (seqPlan P ops.toList 0) pl
def RP (P : Program) (X : Ext0) (call : CallA) (ops : Array Oper) (pl : List PS) (F : Fm) (h : H) (N : Fm → H → Prop) : Prop := ∃ F' h', runP P X call ops pl F h = some (F', h') ∧ N F' h'
theorem Gives.region {id : Nat} {ops : Array Oper} {draw : Bool} (pl : List PS) (hp : planB P n ops draw pl = true) (h1 : RP P X call ops pl F h N) : Gives P X call L n (.region id ops draw) F h N B := by
  obtain ⟨F', h', e, q⟩ := h1
  refine ⟨.normal, F', h', ?_, q⟩
  have : regA P X call n ops draw F h = some (F', h') := by
    unfold regA
    unfold planB at hp
    cases draw with
    | true =>
      simp only [cond_true, Bool.and_eq_true] at hp ⊢
      rw [hp.1, samePl_eq hp.2]
      exact e
    | false =>
      simp only [cond_false, Bool.and_eq_true] at hp ⊢
      rw [hp.1, samePl_eq hp.2]
      exact e
  simp only [execC, this]
variable {ops : Array Oper} {rest : List PS} {K : Fm → H → Prop}
theorem RP.nil (h1 : N F h) : RP P X call ops [] F h N := ⟨F, h, rfl, h1⟩
def OpP (P : Program) (ops : Array Oper) (o : Oper) (F : Fm) (h : H) (K : Fm → H → Prop) : Prop :=
  ∃ F' h', (match wantA F ops o with
    | some true => match pop P F o.op with
      | some (.val v) => some (putD F o.dst v, h)
      | some (.new ob k) => some (putD F o.dst (k.val h.next), h.new ob)
      | none => none
    | some false => some (putD F o.dst (.tup []), h)
    | none => none) = some (F', h') ∧ K F' h'
def OpR (P : Program) (ops : Array Oper) (o : Oper) (F : Fm) (h : H) (K : Fm → H → Prop) : Prop :=
  ∃ F' h', (match wantA F ops o with
    | some true => match rop P F h o.op with
      | some v => some (putD F o.dst v, h)
      | none => none
    | some false => some (putD F o.dst (.tup []), h)
    | none => none) = some (F', h') ∧ K F' h'
def OpE (P : Program) (X : Ext0) (call : CallA) (ops : Array Oper) (chk : List Nat) (o : Oper) (F : Fm) (h : H) (K : Fm → H → Prop) : Prop :=
  ∃ F' h', (match wantA F ops o with
    | some true => match effA P X call F h o.op with
      | some (v, h') => bif chk.all (chkR P (putD F o.dst v) h' ops) then some (putD F o.dst v, h') else none
      | none => none
    | some false => bif chk.all (chkR P (putD F o.dst (.tup [])) h ops) then some (putD F o.dst (.tup []), h) else none
    | none => none) = some (F', h') ∧ K F' h'
theorem RP.p {i : Nat} {o : Oper} (ho : ops[i]? = some o) (h1 : OpP P ops o F h fun F' h' => RP P X call ops rest F' h' N) : RP P X call ops (.p i :: rest) F h N := by
  obtain ⟨F', h', e, F2, h2, e2, q⟩ := h1
  refine ⟨F2, h2, ?_, q⟩
  simp only [runP, stepP_eq, stepP0, ho]
  split at e <;> rename_i hw
  · split at e <;> rename_i hp
    · cases e; simp only [hw, hp, e2]
    · cases e; simp only [hw, hp, e2]
    · cases e
  · cases e; simp only [hw, e2]
  · cases e
theorem RP.r {i : Nat} {o : Oper} (ho : ops[i]? = some o) (h1 : OpR P ops o F h fun F' h' => RP P X call ops rest F' h' N) : RP P X call ops (.r i :: rest) F h N := by
  obtain ⟨F', h', e, F2, h2, e2, q⟩ := h1
  refine ⟨F2, h2, ?_, q⟩
  simp only [runP, stepP_eq, stepP0, ho]
  split at e <;> rename_i hw
  · split at e <;> rename_i hp
    · cases e; simp only [hw, hp, e2]
    · cases e
  · cases e; simp only [hw, e2]
  · cases e
theorem RP.e {i : Nat} {chk : List Nat} {o : Oper} (ho : ops[i]? = some o) (h1 : OpE P X call ops chk o F h fun F' h' => RP P X call ops rest F' h' N) : RP P X call ops (.e i chk :: rest) F h N := by
  obtain ⟨F', h', e, F2, h2, e2, q⟩ := h1
  refine ⟨F2, h2, ?_, q⟩
  simp only [runP, stepP_eq, stepP0, ho]
  split at e <;> rename_i hw
  · split at e <;> rename_i hp
    · rw [Bool.cond_eq_ite] at e
      split at e <;> rename_i hk
      · cases e; simp only [hw, hp, hk, cond_true, e2]
      · cases e
    · cases e
  · rw [Bool.cond_eq_ite] at e
    split at e <;> rename_i hk
    · cases e; simp only [hw, hk, cond_true, e2]
    · cases e
  · cases e
variable {op : Op} {dst : Option Tmp} {ty : TypeId} {pos : String} {af : Array Edge} {chk : List Nat} {d : Nat} {v : AV}
theorem want_none : wantA F ops ⟨dst, op, ty, pos, af, none⟩ = some true := rfl
theorem OpP.val (hp : pop P F op = some (.val v)) (hk : K (putD F dst v) h) : OpP P ops ⟨dst, op, ty, pos, af, none⟩ F h K := ⟨_, _, by simp only [want_none, hp], hk⟩
theorem OpP.mk {ob : AObj} {k : NK} (hp : pop P F op = some (.new ob k)) (hk : K (putD F dst (k.val h.next)) (h.new ob)) : OpP P ops ⟨dst, op, ty, pos, af, none⟩ F h K := ⟨_, _, by simp only [want_none, hp], hk⟩
theorem OpR.val (hp : rop P F h op = some v) (hk : K (putD F dst v) h) : OpR P ops ⟨dst, op, ty, pos, af, none⟩ F h K := ⟨_, _, by simp only [want_none, hp], hk⟩
theorem OpE.done {h' : H} (hp : effA P X call F h op = some (v, h')) (hc : chk.all (chkR P (putD F dst v) h' ops) = true) (hk : K (putD F dst v) h') : OpE P X call ops chk ⟨dst, op, ty, pos, af, none⟩ F h K :=
  ⟨_, _, by simp only [want_none, hp, hc, cond_true], hk⟩
theorem want_some {j : Nat} {b c : Bool} {oj : Oper} {t : Tmp} (h1 : ops[j]? = some oj) (h2 : oj.dst = some t) (h3 : F.at t = some (.bool c)) : wantA F ops ⟨dst, op, ty, pos, af, some (j, b)⟩ = some (c == b) := by
  simp only [wantA, h1, h2, h3]
theorem want_tup {j : Nat} {b : Bool} {oj : Oper} {t : Tmp} {vs : List AV} (h1 : ops[j]? = some oj) (h2 : oj.dst = some t) (h3 : F.at t = some (.tup vs)) : wantA F ops ⟨dst, op, ty, pos, af, some (j, b)⟩ = some false := by
  simp only [wantA, h1, h2, h3]
theorem OpP.on {g : Nat × Bool} (hw : wantA F ops ⟨dst, op, ty, pos, af, some g⟩ = some true) (hk : OpP P ops ⟨dst, op, ty, pos, af, none⟩ F h K) : OpP P ops ⟨dst, op, ty, pos, af, some g⟩ F h K := by
  obtain ⟨F', h', e, q⟩ := hk; refine ⟨F', h', ?_, q⟩; simp only [want_none] at e; simp only [hw]; exact e
theorem OpP.off {g : Nat × Bool} (hw : wantA F ops ⟨dst, op, ty, pos, af, some g⟩ = some false) (hk : K (putD F dst (.tup [])) h) : OpP P ops ⟨dst, op, ty, pos, af, some g⟩ F h K := ⟨_, _, by simp only [hw], hk⟩
theorem OpR.on {g : Nat × Bool} (hw : wantA F ops ⟨dst, op, ty, pos, af, some g⟩ = some true) (hk : OpR P ops ⟨dst, op, ty, pos, af, none⟩ F h K) : OpR P ops ⟨dst, op, ty, pos, af, some g⟩ F h K := by
  obtain ⟨F', h', e, q⟩ := hk; refine ⟨F', h', ?_, q⟩; simp only [want_none] at e; simp only [hw]; exact e
theorem OpR.off {g : Nat × Bool} (hw : wantA F ops ⟨dst, op, ty, pos, af, some g⟩ = some false) (hk : K (putD F dst (.tup [])) h) : OpR P ops ⟨dst, op, ty, pos, af, some g⟩ F h K := ⟨_, _, by simp only [hw], hk⟩
theorem OpE.on {g : Nat × Bool} (hw : wantA F ops ⟨dst, op, ty, pos, af, some g⟩ = some true) (hk : OpE P X call ops chk ⟨dst, op, ty, pos, af, none⟩ F h K) : OpE P X call ops chk ⟨dst, op, ty, pos, af, some g⟩ F h K := by
  obtain ⟨F', h', e, q⟩ := hk; refine ⟨F', h', ?_, q⟩; simp only [want_none] at e; simp only [hw]; exact e
theorem OpE.off {g : Nat × Bool} (hw : wantA F ops ⟨dst, op, ty, pos, af, some g⟩ = some false) (hk : K (putD F dst (.tup [])) h) : OpE P X call ops [] ⟨dst, op, ty, pos, af, some g⟩ F h K := ⟨_, _, by simp only [hw]; rfl, hk⟩
theorem OpP.on' {j : Nat} {b : Bool} {oj : Oper} {t : Tmp} (h1 : ops[j]? = some oj) (h2 : oj.dst = some t) (h3 : F.at t = some (.bool b)) (hk : OpP P ops ⟨dst, op, ty, pos, af, none⟩ F h K) : OpP P ops ⟨dst, op, ty, pos, af, some (j, b)⟩ F h K :=
  .on (by rw [want_some h1 h2 h3]; cases b <;> rfl) hk
theorem OpP.offT {j : Nat} {oj : Oper} {t : Tmp} (h1 : ops[j]? = some oj) (h2 : oj.dst = some t) (h3 : F.at t = some (.bool true)) (hk : K (putD F dst (.tup [])) h) : OpP P ops ⟨dst, op, ty, pos, af, some (j, false)⟩ F h K :=
  .off (want_some h1 h2 h3) hk
theorem OpP.offF {j : Nat} {oj : Oper} {t : Tmp} (h1 : ops[j]? = some oj) (h2 : oj.dst = some t) (h3 : F.at t = some (.bool false)) (hk : K (putD F dst (.tup [])) h) : OpP P ops ⟨dst, op, ty, pos, af, some (j, true)⟩ F h K :=
  .off (want_some h1 h2 h3) hk
theorem OpP.offU {j : Nat} {b : Bool} {oj : Oper} {t : Tmp} {vs : List AV} (h1 : ops[j]? = some oj) (h2 : oj.dst = some t) (h3 : F.at t = some (.tup vs)) (hk : K (putD F dst (.tup [])) h) : OpP P ops ⟨dst, op, ty, pos, af, some (j, b)⟩ F h K :=
  .off (want_tup h1 h2 h3) hk
theorem OpR.on' {j : Nat} {b : Bool} {oj : Oper} {t : Tmp} (h1 : ops[j]? = some oj) (h2 : oj.dst = some t) (h3 : F.at t = some (.bool b)) (hk : OpR P ops ⟨dst, op, ty, pos, af, none⟩ F h K) : OpR P ops ⟨dst, op, ty, pos, af, some (j, b)⟩ F h K :=
  .on (by rw [want_some h1 h2 h3]; cases b <;> rfl) hk
theorem OpR.offT {j : Nat} {oj : Oper} {t : Tmp} (h1 : ops[j]? = some oj) (h2 : oj.dst = some t) (h3 : F.at t = some (.bool true)) (hk : K (putD F dst (.tup [])) h) : OpR P ops ⟨dst, op, ty, pos, af, some (j, false)⟩ F h K :=
  .off (want_some h1 h2 h3) hk
theorem OpR.offF {j : Nat} {oj : Oper} {t : Tmp} (h1 : ops[j]? = some oj) (h2 : oj.dst = some t) (h3 : F.at t = some (.bool false)) (hk : K (putD F dst (.tup [])) h) : OpR P ops ⟨dst, op, ty, pos, af, some (j, true)⟩ F h K :=
  .off (want_some h1 h2 h3) hk
theorem OpR.offU {j : Nat} {b : Bool} {oj : Oper} {t : Tmp} {vs : List AV} (h1 : ops[j]? = some oj) (h2 : oj.dst = some t) (h3 : F.at t = some (.tup vs)) (hk : K (putD F dst (.tup [])) h) : OpR P ops ⟨dst, op, ty, pos, af, some (j, b)⟩ F h K :=
  .off (want_tup h1 h2 h3) hk
theorem OpE.on' {j : Nat} {b : Bool} {oj : Oper} {t : Tmp} (h1 : ops[j]? = some oj) (h2 : oj.dst = some t) (h3 : F.at t = some (.bool b)) (hk : OpE P X call ops chk ⟨dst, op, ty, pos, af, none⟩ F h K) : OpE P X call ops chk ⟨dst, op, ty, pos, af, some (j, b)⟩ F h K :=
  .on (by rw [want_some h1 h2 h3]; cases b <;> rfl) hk
theorem OpE.offT {j : Nat} {oj : Oper} {t : Tmp} (h1 : ops[j]? = some oj) (h2 : oj.dst = some t) (h3 : F.at t = some (.bool true)) (hk : K (putD F dst (.tup [])) h) : OpE P X call ops [] ⟨dst, op, ty, pos, af, some (j, false)⟩ F h K :=
  .off (want_some h1 h2 h3) hk
theorem OpE.offF {j : Nat} {oj : Oper} {t : Tmp} (h1 : ops[j]? = some oj) (h2 : oj.dst = some t) (h3 : F.at t = some (.bool false)) (hk : K (putD F dst (.tup [])) h) : OpE P X call ops [] ⟨dst, op, ty, pos, af, some (j, true)⟩ F h K :=
  .off (want_some h1 h2 h3) hk
theorem OpE.offU {j : Nat} {b : Bool} {oj : Oper} {t : Tmp} {vs : List AV} (h1 : ops[j]? = some oj) (h2 : oj.dst = some t) (h3 : F.at t = some (.tup vs)) (hk : K (putD F dst (.tup [])) h) : OpE P X call ops [] ⟨dst, op, ty, pos, af, some (j, b)⟩ F h K :=
  .off (want_tup h1 h2 h3) hk
theorem qS {F : Fm} {t : Nat} {v : AV} : (F.put t v).at t = some v := by rw [Tr.at_put, if_pos rfl]
theorem qN {F : Fm} {s t : Nat} {u : AV} {r : Option AV} (hne : Nat.beq t s = false) (h1 : F.at t = r) : (F.put s u).at t = r := by
  rw [Tr.at_put, if_neg (fun e => by subst e; simp at hne)]; exact h1
theorem qO {l : List AV} {t : Nat} {v : AV} (h1 : l[t]? = some v) : (ofL l).at t = some v := by
  unfold ofL
  rw [at_puts, if_pos ⟨Nat.zero_le _, by have := (List.getElem?_eq_some_iff.1 h1).1; omega⟩]; simpa using h1
theorem qT {t : Nat} (h1 : F.at t = some v) : ev F (.tmp t) = some v := h1
theorem evs_nil : evs F [] = some [] := rfl
theorem evs_cons {x : Operand} {xs : List Operand} {vs : List AV} (h1 : ev F x = some v) (h2 : evs F xs = some vs) : evs F (x :: xs) = some (v :: vs) := by simp only [evs, h1, h2]
def CS (P : Program) (X : Ext0) (S : Sums) (L d : Nat) (f : FuncId) (args : List AV) (h : H) (Q : AV → H → Prop) : Prop := ∃ v h', callA P X S L d (.fn f) args h = some (v, h') ∧ Q v h'
def RS (P : Program) (rs : List ResultVar) (Q : AV → H → Prop) (F : Fm) (h : H) : Prop := ∃ vs, resA P h F rs = some vs ∧ Q (retV vs) h
def retB (P : Program) (rs : List ResultVar) (Q : AV → H → Prop) : Ex → Fm → H → Prop
  | .ret => RS P rs Q
  | _ => fun _ _ => False
variable {S : Sums} {Q : AV → H → Prop}
variable {rs : List ResultVar} {B0 : Fm → H → Prop} {N1 N2 N3 N4 : Fm → H → Prop} {i1 i2 i3 i4 : Nat}
theorem Gives.ret0 (h1 : RS P rs Q F h) : Gives P X call L n .ret F h N (retB P rs Q) := .ret h1
theorem Gives.ret1 (h1 : RS P rs Q F h) : Gives P X call L n .ret F h N (blk i1 N1 (retB P rs Q)) := .ret h1
theorem Gives.ret2 (h1 : RS P rs Q F h) : Gives P X call L n .ret F h N (blk i2 N2 (blk i1 N1 (retB P rs Q))) := .ret h1
theorem Gives.ret3 (h1 : RS P rs Q F h) : Gives P X call L n .ret F h N (blk i3 N3 (blk i2 N2 (blk i1 N1 (retB P rs Q)))) := .ret h1
theorem Gives.ret4 (h1 : RS P rs Q F h) : Gives P X call L n .ret F h N (blk i4 N4 (blk i3 N3 (blk i2 N2 (blk i1 N1 (retB P rs Q))))) := .ret h1
theorem CS.of {f : FuncId} {args : List AV} {fn : Func} {c : Code} {rs : List ResultVar} {d : Nat} (hS : S f = none) (hf : P.funcs[f]? = some fn) (hb : fn.body = some c) (hr : fn.results.toList = rs)
    (hg : Gives P X (callA P X S L d) L (Nat.max args.length fn.ntmps) c (ofL args) h (RS P rs Q) (retB P rs Q)) : CS P X S L (d + 1) f args h Q := by
  obtain ⟨ex, F', h', e, q⟩ := hg
  have key : RS P rs Q F' h' → (∀ id, ex ≠ .exit id) → CS P X S L (d + 1) f args h Q := by
    rintro ⟨vs, hvs, hq⟩ hne
    refine ⟨retV vs, h', ?_, hq⟩
    simp only [callA, hS, fnA, hf, hb, forceN_eq, forceL_eq, putsK_eq]
    have e0 : puts Tr.nil 0 args = ofL args := rfl
    rw [e0, e]
    cases ex with
    | exit id => exact (hne id rfl).elim
    | normal => simp only [killDs, hr, hvs]
    | ret => simp only [killDs, hr, hvs]
  cases ex with
  | normal => exact key q (by simp)
  | ret => exact key q (by simp)
  | exit id => exact q.elim
theorem CS.sum {f : FuncId} {args : List AV} {s : List AV → H → Option (AV × H)} {d : Nat} {v : AV} {h' : H} (hS : S f = some s) (he : s args h = some (v, h')) (hq : Q v h') : CS P X S L (d + 1) f args h Q :=
  ⟨v, h', by simp only [callA, hS, he], hq⟩
theorem CS.mono {f : FuncId} {args : List AV} {d : Nat} {Q' : AV → H → Prop} (h1 : CS P X S L d f args h Q) (hq : ∀ v h', Q v h' → Q' v h') : CS P X S L d f args h Q' := by
  obtain ⟨v, h', e, q⟩ := h1; exact ⟨v, h', e, hq v h' q⟩
theorem RS.one {t : Tmp} (h1 : F.at t = some v) (hq : Q v h) : RS P [.tmp t] Q F h := ⟨[v], by simp only [resA, h1], hq⟩
theorem RS.two {s t : Tmp} {u : AV} (h1 : F.at s = some u) (h2 : F.at t = some v) (hq : Q (.tup [u, v]) h) : RS P [.tmp s, .tmp t] Q F h := ⟨[u, v], by simp only [resA, h1, h2], hq⟩
theorem RS.three {r s t : Tmp} {u x : AV} (h0 : F.at r = some x) (h1 : F.at s = some u) (h2 : F.at t = some v) (hq : Q (.tup [x, u, v]) h) : RS P [.tmp r, .tmp s, .tmp t] Q F h := ⟨[x, u, v], by simp only [resA, h0, h1, h2], hq⟩
end Go.Abs

/- Operations with open values: what each gives. No condition. -/
namespace Go.Abs
variable {P : Program} {X : Ext0} {call : CallA} {L n : Nat} {F : Fm} {h : H} {K : Fm → H → Prop} {ops : Array Oper}
variable {ty : TypeId} {pos : String} {af : Array Edge} {chk : List Nat} {d : Nat} {v : AV} {t : TypeId}
theorem ifK_self (k : IntKind) (x : Option AV) : ifK k k x = x := by cases k <;> rfl
theorem wrapN_lt {k : IntKind} {m : Nat} (h : m < topK k) : wrapN k m = .ofNat m := by
  unfold wrapN
  have : Nat.blt m (topK k) = true := by simpa using h
  rw [this]
theorem bin_int {op : BinOp} {x y : Operand} {k l : IntKind} {a b : Nat} {r : AV} (h1 : intN op k l a b = some r) : binA P op t x y (.int k (.ofNat a)) (.int l (.ofNat b)) = some r := by
  simp only [binA, scal]; rw [intN_sound (_P := P) h1]
variable {x y : Operand} {k l : IntKind} {a b : Nat}
theorem bin_add (h1 : a + b < topK k) : binA P .add t x y (.int k (.ofNat a)) (.int k (.ofNat b)) = some (.int k (.ofNat (a + b))) :=
  bin_int (by show ifK k k (some (.int k (wrapN k (a + b)))) = _; rw [ifK_self, wrapN_lt h1])
theorem bin_sub (h1 : b ≤ a) (h2 : a < topK k) : binA P .sub t x y (.int k (.ofNat a)) (.int k (.ofNat b)) = some (.int k (.ofNat (a - b))) :=
  bin_int (by
    show ifK k k (Bool.rec (motive := fun _ => Option AV) _ (some (.int k (wrapN k (Nat.sub a b)))) (Nat.ble b a)) = _
    have : Nat.ble b a = true := Nat.ble_eq_true_of_le h1
    rw [ifK_self, this, wrapN_lt (show Nat.sub a b < topK k by show a - b < topK k; omega)]; rfl)
theorem bin_mul (h1 : a * b < topK k) : binA P .mul t x y (.int k (.ofNat a)) (.int k (.ofNat b)) = some (.int k (.ofNat (a * b))) :=
  bin_int (by show ifK k k (some (.int k (wrapN k (a * b)))) = _; rw [ifK_self, wrapN_lt h1])
theorem bin_quo (h1 : b ≠ 0) (h2 : a < topK k) : binA P .quo t x y (.int k (.ofNat a)) (.int k (.ofNat b)) = some (.int k (.ofNat (a / b))) :=
  bin_int (by
    show ifK k k (Bool.rec (motive := fun _ => Option AV) (some (.int k (wrapN k (Nat.div a b)))) none (Nat.beq b 0)) = _
    have : Nat.beq b 0 = false := by cases b with | zero => exact absurd rfl h1 | succ b => rfl
    rw [ifK_self, this, wrapN_lt (show Nat.div a b < topK k from Nat.lt_of_le_of_lt (Nat.div_le_self a b) h2)]
    rfl)
theorem bin_rem (h1 : b ≠ 0) : binA P .rem t x y (.int k (.ofNat a)) (.int k (.ofNat b)) = some (.int k (.ofNat (a % b))) :=
  bin_int (by
    show ifK k k (Bool.rec (motive := fun _ => Option AV) (some (.int k (Int.ofNat (Nat.mod a b)))) none (Nat.beq b 0)) = _
    have : Nat.beq b 0 = false := by cases b with | zero => exact absurd rfl h1 | succ b => rfl
    rw [ifK_self, this]
    rfl)
theorem topK_le_fullK (k : IntKind) : topK k ≤ fullK k := by cases k <;> decide
theorem topK_pow (k : IntKind) : ∃ m, topK k = 2 ^ m := by
  cases k with
  | i8 => exact ⟨7, rfl⟩
  | i16 => exact ⟨15, rfl⟩
  | i32 => exact ⟨31, rfl⟩
  | i64 => exact ⟨63, rfl⟩
  | u8 => exact ⟨8, rfl⟩
  | u16 => exact ⟨16, rfl⟩
  | u32 => exact ⟨32, rfl⟩
  | u64 => exact ⟨64, rfl⟩
theorem mod_full {k : IntKind} {a : Nat} (h1 : a < topK k) : Nat.mod a (fullK k) = a := Nat.mod_eq_of_lt (Nat.lt_of_lt_of_le h1 (topK_le_fullK k))
theorem bin_and (h1 : a < topK k) (h2 : b < topK k) : binA P .and t x y (.int k (.ofNat a)) (.int k (.ofNat b)) = some (.int k (.ofNat (a &&& b))) :=
  bin_int (by
    show ifK k k (some (.int k (wrapN k (Nat.land (Nat.mod a (fullK k)) (Nat.mod b (fullK k)))))) = _
    rw [ifK_self, mod_full h1, mod_full h2, wrapN_lt (show Nat.land a b < topK k from Nat.lt_of_le_of_lt Nat.and_le_left h1)]; rfl)
theorem bin_or (h1 : a < topK k) (h2 : b < topK k) : binA P .or t x y (.int k (.ofNat a)) (.int k (.ofNat b)) = some (.int k (.ofNat (a ||| b))) :=
  bin_int (by
    show ifK k k (some (.int k (wrapN k (Nat.lor (Nat.mod a (fullK k)) (Nat.mod b (fullK k)))))) = _
    have : Nat.lor a b < topK k := by obtain ⟨m, hm⟩ := topK_pow k; rw [hm] at h1 h2 ⊢; exact Nat.or_lt_two_pow h1 h2
    rw [ifK_self, mod_full h1, mod_full h2, wrapN_lt this]; rfl)
theorem bin_xor (h1 : a < topK k) (h2 : b < topK k) : binA P .xor t x y (.int k (.ofNat a)) (.int k (.ofNat b)) = some (.int k (.ofNat (a ^^^ b))) :=
  bin_int (by
    show ifK k k (some (.int k (wrapN k (Nat.xor (Nat.mod a (fullK k)) (Nat.mod b (fullK k)))))) = _
    have : Nat.xor a b < topK k := by obtain ⟨m, hm⟩ := topK_pow k; rw [hm] at h1 h2 ⊢; exact Nat.xor_lt_two_pow h1 h2
    rw [ifK_self, mod_full h1, mod_full h2, wrapN_lt this]; rfl)
theorem bin_shl (h1 : b ≤ bitsK k) (h2 : a * 2 ^ b < topK k) : binA P .shl t x y (.int k (.ofNat a)) (.int l (.ofNat b)) = some (.int k (.ofNat (a * 2 ^ b))) :=
  bin_int (by
    show some (AV.int k (wrapN k (Nat.mul a (Nat.pow 2 (Nat.min b (bitsK k)))))) = _
    rw [show Nat.min b (bitsK k) = b from Nat.min_eq_left h1, wrapN_lt (show Nat.mul a (Nat.pow 2 b) < topK k from h2)]; rfl)
theorem bin_shr (h1 : b ≤ bitsK k) : binA P .shr t x y (.int k (.ofNat a)) (.int l (.ofNat b)) = some (.int k (.ofNat (a / 2 ^ b))) :=
  bin_int (by
    show some (AV.int k (Int.ofNat (Nat.div a (Nat.pow 2 (Nat.min b (bitsK k)))))) = _
    rw [show Nat.min b (bitsK k) = b from Nat.min_eq_left h1]; rfl)
theorem bin_shl_wrap (h0 : k.signed = false) (h1 : b ≤ bitsK k) : binA P .shl t x y (.int k (.ofNat a)) (.int l (.ofNat b)) = some (.int k (.ofNat (a * 2 ^ b % fullK k))) :=
  bin_int (by
    show some (AV.int k (wrapN k (Nat.mul a (Nat.pow 2 (Nat.min b (bitsK k)))))) = _
    rw [show Nat.min b (bitsK k) = b from Nat.min_eq_left h1, wrapN_eq]
    congr 2
    show k.wrap (Int.ofNat (a * 2 ^ b)) = _
    cases k <;> cases h0 <;> simp [IntKind.wrap, IntKind.bits, IntKind.signed, fullK])
theorem bin_shl_u16 (h1 : b ≤ 16) : binA P .shl t x y (.int .u16 (.ofNat a)) (.int l (.ofNat b)) = some (.int .u16 (.ofNat (a * 2 ^ b % 65536))) := bin_shl_wrap rfl h1
theorem bin_shl_u8 (h1 : b ≤ 8) : binA P .shl t x y (.int .u8 (.ofNat a)) (.int l (.ofNat b)) = some (.int .u8 (.ofNat (a * 2 ^ b % 256))) := bin_shl_wrap rfl h1
theorem bin_cmp {op : BinOp} {p q : Int} {r : Bool} (hr : Op.intCmp op p q = .pure (.bool r)) (h0 : ∀ k, binOp op t (.int k p) (.int k q) = Op.intCmp op p q) : binA P op t x y (.int k p) (.int k q) = some (.bool r) := by
  simp only [binA, scal, h0, hr]; rfl
theorem bin_lss {p q : Int} : binA P .lss t x y (.int k p) (.int k q) = some (.bool (decide (p < q))) := by
  refine bin_cmp rfl fun k => ?_
  show (if k ≠ k then _ else _) = _; rw [if_neg (by simp)]
theorem bin_leq {p q : Int} : binA P .leq t x y (.int k p) (.int k q) = some (.bool (decide (p ≤ q))) := by
  refine bin_cmp rfl fun k => ?_
  show (if k ≠ k then _ else _) = _; rw [if_neg (by simp)]
theorem bin_gtr {p q : Int} : binA P .gtr t x y (.int k p) (.int k q) = some (.bool (decide (q < p))) := by
  refine bin_cmp rfl fun k => ?_
  show (if k ≠ k then _ else _) = _; rw [if_neg (by simp)]
theorem bin_geq {p q : Int} : binA P .geq t x y (.int k p) (.int k q) = some (.bool (decide (q ≤ p))) := by
  refine bin_cmp rfl fun k => ?_
  show (if k ≠ k then _ else _) = _; rw [if_neg (by simp)]
theorem bin_eql {p q : Int} : binA P .eql t x y (.int k p) (.int k q) = some (.bool (decide (p = q))) := by
  have : binA P .eql t x y (.int k p) (.int k q) = some (.bool (p == q)) := by
    refine bin_cmp rfl fun k => ?_
    show (if k ≠ k then _ else _) = _; rw [if_neg (by simp)]
  rw [this]; congr 2
theorem bin_neq {p q : Int} : binA P .neq t x y (.int k p) (.int k q) = some (.bool (decide (p ≠ q))) := by
  have : binA P .neq t x y (.int k p) (.int k q) = some (.bool (p != q)) := by
    refine bin_cmp rfl fun k => ?_
    show (if k ≠ k then _ else _) = _; rw [if_neg (by simp)]
  rw [this]; congr 2
  rw [Bool.eq_iff_iff]; simp
theorem bin_lss_t {p q : Nat} (h1 : p < q) : binA P .lss t x y (.int k (.ofNat p)) (.int k (.ofNat q)) = some (.bool true) := by rw [bin_lss]; congr 2; simp; omega
theorem bin_lss_f {p q : Nat} (h1 : q ≤ p) : binA P .lss t x y (.int k (.ofNat p)) (.int k (.ofNat q)) = some (.bool false) := by rw [bin_lss]; congr 2; simp; omega
theorem bin_leq_t {p q : Nat} (h1 : p ≤ q) : binA P .leq t x y (.int k (.ofNat p)) (.int k (.ofNat q)) = some (.bool true) := by rw [bin_leq]; congr 2; simp; omega
theorem bin_leq_f {p q : Nat} (h1 : q < p) : binA P .leq t x y (.int k (.ofNat p)) (.int k (.ofNat q)) = some (.bool false) := by rw [bin_leq]; congr 2; simp; omega
theorem bin_gtr_t {p q : Nat} (h1 : q < p) : binA P .gtr t x y (.int k (.ofNat p)) (.int k (.ofNat q)) = some (.bool true) := by rw [bin_gtr]; congr 2; simp; omega
theorem bin_gtr_f {p q : Nat} (h1 : p ≤ q) : binA P .gtr t x y (.int k (.ofNat p)) (.int k (.ofNat q)) = some (.bool false) := by rw [bin_gtr]; congr 2; simp; omega
theorem bin_geq_t {p q : Nat} (h1 : q ≤ p) : binA P .geq t x y (.int k (.ofNat p)) (.int k (.ofNat q)) = some (.bool true) := by rw [bin_geq]; congr 2; simp; omega
theorem bin_geq_f {p q : Nat} (h1 : p < q) : binA P .geq t x y (.int k (.ofNat p)) (.int k (.ofNat q)) = some (.bool false) := by rw [bin_geq]; congr 2; simp; omega
theorem bin_eql_t {p q : Nat} (h1 : p = q) : binA P .eql t x y (.int k (.ofNat p)) (.int k (.ofNat q)) = some (.bool true) := by rw [bin_eql, h1]; simp
theorem bin_eql_f {p q : Nat} (h1 : p ≠ q) : binA P .eql t x y (.int k (.ofNat p)) (.int k (.ofNat q)) = some (.bool false) := by rw [bin_eql]; congr 2; simp; omega
theorem bin_neq_t {p q : Nat} (h1 : p ≠ q) : binA P .neq t x y (.int k (.ofNat p)) (.int k (.ofNat q)) = some (.bool true) := by rw [bin_neq]; congr 2; simp; omega
theorem bin_neq_f {p q : Nat} (h1 : p = q) : binA P .neq t x y (.int k (.ofNat p)) (.int k (.ofNat q)) = some (.bool false) := by rw [bin_neq, h1]; simp
theorem bin_lssN {p q : Nat} : binA P .lss t x y (.int k (.ofNat p)) (.int k (.ofNat q)) = some (.bool (decide (p < q))) := by rw [bin_lss]; congr 2; rw [Bool.eq_iff_iff]; simp
theorem bin_leqN {p q : Nat} : binA P .leq t x y (.int k (.ofNat p)) (.int k (.ofNat q)) = some (.bool (decide (p ≤ q))) := by rw [bin_leq]; congr 2; rw [Bool.eq_iff_iff]; simp
theorem bin_gtrN {p q : Nat} : binA P .gtr t x y (.int k (.ofNat p)) (.int k (.ofNat q)) = some (.bool (decide (q < p))) := by rw [bin_gtr]; congr 2; rw [Bool.eq_iff_iff]; simp
theorem bin_geqN {p q : Nat} : binA P .geq t x y (.int k (.ofNat p)) (.int k (.ofNat q)) = some (.bool (decide (q ≤ p))) := by rw [bin_geq]; congr 2; rw [Bool.eq_iff_iff]; simp
theorem bin_eqlN {p q : Nat} : binA P .eql t x y (.int k (.ofNat p)) (.int k (.ofNat q)) = some (.bool (decide (p = q))) := by rw [bin_eql]; congr 2; rw [Bool.eq_iff_iff]; simp; omega
theorem bin_neqN {p q : Nat} : binA P .neq t x y (.int k (.ofNat p)) (.int k (.ofNat q)) = some (.bool (decide (p ≠ q))) := by rw [bin_neq]; congr 2; rw [Bool.eq_iff_iff]; simp; omega
theorem op_move (hx : ev F x = some v) (hk : K (F.put d v) h) : OpP P ops ⟨some d, .move x, ty, pos, af, none⟩ F h K := .val (by simp only [pop, hx]; rfl) hk
theorem op_assign (hx : ev F x = some v) (hk : K (F.put d v) h) : OpP P ops ⟨some d, .assign x, ty, pos, af, none⟩ F h K := .val (by simp only [pop, hx]; rfl) hk
theorem op_pick_t {c : Operand} (hc : ev F c = some (.bool true)) (hx : ev F x = some v) (hk : K (F.put d v) h) : OpP P ops ⟨some d, .pick c x y, ty, pos, af, none⟩ F h K := .val (by simp only [pop, hc, hx]; rfl) hk
theorem op_pick_f {c : Operand} (hc : ev F c = some (.bool false)) (hx : ev F y = some v) (hk : K (F.put d v) h) : OpP P ops ⟨some d, .pick c x y, ty, pos, af, none⟩ F h K := .val (by simp only [pop, hc, hx]; rfl) hk
theorem op_bin {op : BinOp} {yt : TypeId} {p q r : AV} (hx : ev F x = some p) (hy : ev F y = some q) (hr : binA P op t x y p q = some r) (hk : K (F.put d r) h) : OpP P ops ⟨some d, .binOp op t x y yt, ty, pos, af, none⟩ F h K :=
  .val (by simp only [pop, hx, hy, hr]; rfl) hk
theorem op_not {r : Bool} (hx : ev F x = some (.bool r)) (hk : K (F.put d (.bool (!r))) h) : OpP P ops ⟨some d, .unOp .not t x, ty, pos, af, none⟩ F h K := .val (by simp only [pop, hx]; rfl) hk
theorem op_neg32 (hx : ev F x = some (.int .u32 (.ofNat a))) (ha : a < 4294967296) (hk : K (F.put d (.int .u32 (.ofNat (4294967295 ^^^ a)))) h) : OpP P ops ⟨some d, .unOp .xor t x, ty, pos, af, none⟩ F h K :=
  .val (by
    simp only [pop, hx, scal]
    have h1 : Op.unary .xor (.int .u32 (.ofNat a)) = Op.intBits .xor .u32 4294967295 (.ofNat a) := rfl
    rw [h1]
    show (some (AV.int .u32 (IntKind.u32.wrap ((BitVec.ofInt 32 (Int.ofNat 4294967295) ^^^ BitVec.ofInt 32 (Int.ofNat a)).toNat : Int)))).map PR.val = _
    rw [bv_ofNat, bv_ofNat, BitVec.toNat_xor, BitVec.toNat_ofNat, BitVec.toNat_ofNat]
    rw [show 4294967295 % 2 ^ 32 = 4294967295 from rfl, Nat.mod_eq_of_lt (show a < 2 ^ 32 from ha)]
    have h2 : 4294967295 ^^^ a < 4294967296 := Nat.xor_lt_two_pow (n := 32) (by decide) ha
    have h3 := wrapN_eq .u32 (4294967295 ^^^ a)
    rw [wrapN_lt h2] at h3
    rw [show ((4294967295 ^^^ a : Nat) : Int) = Int.ofNat (4294967295 ^^^ a) from rfl, ← h3]
    rfl) hk
theorem op_conv {src dst : TypeId} {k' : IntKind} {u : TypeDesc} (hx : ev F x = some (.int k' (.ofNat a))) (hs : P.underlying src = some u) (hd : P.underlying dst = some (.int k)) (ha : a < topK k) (hk : K (F.put d (.int k (.ofNat a))) h) :
    OpP P ops ⟨some d, .convert src dst x, ty, pos, af, none⟩ F h K :=
  .val (by
    simp only [pop, hx, convA, hs, hd]
    have h3 := wrapN_eq k a
    rw [wrapN_lt ha] at h3
    rw [← h3]; rfl) hk
theorem op_len_slice {bb o m c s : Nat} {ex : Bool} {e : TypeId} (hx : ev F x = some (.slice bb o m c s ex)) (hu : P.underlying t = some (.slice e)) (hk : K (F.put d (.int .i64 (.ofNat m))) h) :
    OpP P ops ⟨some d, .call ⟨.builtin .len, #[x], #[t]⟩, ty, pos, af, none⟩ F h K :=
  .val (by
    have h1 : evs F (#[x] : Array Operand).toList = some [.slice bb o m c s ex] := evs_cons hx evs_nil
    simp only [pop, h1]
    show ((match P.underlying t with | some (.slice _) => some (AV.int .i64 m) | _ => none).map PR.val) = _
    rw [hu]; rfl) hk
theorem op_len_nil {e : TypeId} (hx : ev F x = some .snil) (hu : P.underlying t = some (.slice e)) (hk : K (F.put d (.int .i64 (.ofNat 0))) h) :
    OpP P ops ⟨some d, .call ⟨.builtin .len, #[x], #[t]⟩, ty, pos, af, none⟩ F h K :=
  .val (by
    have h1 : evs F (#[x] : Array Operand).toList = some [.snil] := evs_cons hx evs_nil
    simp only [pop, h1]
    show ((match P.underlying t with | some (.slice _) => some (AV.int .i64 0) | _ => none).map PR.val) = _
    rw [hu]; rfl) hk
theorem op_min {p q : Int} {ts : Array TypeId} (hx : ev F x = some (.int k p)) (hy : ev F y = some (.int k q)) (hk : K (F.put d (.int k (if q < p then q else p))) h) :
    OpP P ops ⟨some d, .call ⟨.builtin .min, #[x, y], ts⟩, ty, pos, af, none⟩ F h K :=
  .val (by
    have h1 : evs F (#[x, y] : Array Operand).toList = some [.int k p, .int k q] := evs_cons hx (evs_cons hy evs_nil)
    simp only [pop, h1]; rfl) hk
theorem op_max {p q : Int} {ts : Array TypeId} (hx : ev F x = some (.int k p)) (hy : ev F y = some (.int k q)) (hk : K (F.put d (.int k (if q > p then q else p))) h) :
    OpP P ops ⟨some d, .call ⟨.builtin .max, #[x, y], ts⟩, ty, pos, af, none⟩ F h K :=
  .val (by
    have h1 : evs F (#[x, y] : Array Operand).toList = some [.int k p, .int k q] := evs_cons hx (evs_cons hy evs_nil)
    simp only [pop, h1]; rfl) hk
theorem op_nilCheck {bb o : Nat} (hx : ev F x = some (.ptr bb o)) (hk : K (F.put d (.ptr bb o)) h) : OpP P ops ⟨some d, .nilCheck x, ty, pos, af, none⟩ F h K := .val (by simp only [pop, hx]) hk
theorem op_fieldAddr {bb o off f : Nat} (hx : ev F x = some (.ptr bb o)) (hf : fieldOff P t f = some off) (hk : K (F.put d (.ptr bb (o + off))) h) : OpP P ops ⟨some d, .fieldAddr t x f, ty, pos, af, none⟩ F h K :=
  .val (by rw [← fadF_eq]; unfold fadF; rw [hf, evF_eq, hx]; rfl) hk
theorem op_indexAddr {bb o m c s j : Nat} {ex : Bool} {e : TypeId} {k : IntKind} (hx : ev F x = some (.slice bb o m c s ex)) (hy : ev F y = some (.int k (.ofNat j))) (hu : P.underlying t = some (.slice e)) (hs : szo P e = some s) (hj : j < m) (hm : m ≤ c)
    (hk : K (F.put d (.ptr bb (o + j * s))) h) : OpP P ops ⟨some d, .indexAddr t x y, ty, pos, af, none⟩ F h K :=
  .val (by
    have h1 : (Nat.blt j m && Nat.ble m c) = true := by simp [hj, hm]
    have h2 : Nat.beq s s = true := by simp
    simp only [pop, hx, hy, hu, hs, h1, h2, cond_true]) hk
theorem op_index_agg {cs : List AV} {m j : Nat} {e : TypeId} {k : IntKind} (hx : ev F x = some (.agg cs)) (hy : ev F y = some (.int k (.ofNat j))) (hu : P.underlying t = some (.array m e)) (hs : szo P e = some 1) (ha : isAg P e = some false) (hj : j < m) (hv : cs[j]? = some v)
    (hk : K (F.put d v) h) : OpP P ops ⟨some d, .index t x y, ty, pos, af, none⟩ F h K :=
  .val (by
    have h1 : Nat.blt j m = true := by simp [hj]
    simp only [pop, hx, hy, hu, hs, h1, cond_true, partA, ha, Nat.mul_one, hv]; rfl) hk
theorem op_extract {vs : List AV} {i : Nat} (hx : ev F x = some (.tup vs)) (hi : vs[i]? = some v) (hk : K (F.put d v) h) : OpP P ops ⟨some d, .extract x i, ty, pos, af, none⟩ F h K := .val (by simp only [pop, hx, hi]; rfl) hk
theorem op_slice {bb o m c s p q mx : Nat} {ex : Bool} {e : TypeId} {lo hi : Option Operand} {lo' hi' : Option AV} (hx : ev F x = some (.slice bb o m c s ex)) (hl : evo F lo = some lo') (hh : evo F hi = some hi') (hu : P.underlying t = some (.slice e))
    (hs : szo P e = some s) (hb : bnds m c lo' hi' none = some (p, q, mx)) (hm : m ≤ c) (hk : K (F.put d (.slice bb (o + p * s) (q - p) (mx - p) s ex)) h) : OpP P ops ⟨some d, .slice t x lo hi none, ty, pos, af, none⟩ F h K :=
  .val (by
    have h0 : evo F none = some none := rfl
    have h1 : (Nat.beq s s && Nat.ble m c) = true := by simp [hm]
    simp only [pop, hx, hl, hh, h0, sliceA, hu, hb, hs, h1, cond_true]; rfl) hk
theorem op_box {e : TypeId} (hx : ev F x = some v) (hk : K (F.put d (.ptr h.next 0)) (h.new (.cells v.cells.length (ofL v.cells)))) : OpP P ops ⟨some d, .box e x, ty, pos, af, none⟩ F h K :=
  OpP.mk (ob := .cells v.cells.length (ofL v.cells)) (k := .ptr) (by simp only [pop, hx, rowP, forceL_eq, putsK_eq, forceN_eq]; rfl) hk
theorem op_alloc {e : TypeId} (hz : zer P e = some v) (hk : K (F.put d (.ptr h.next 0)) (h.new (.cells v.cells.length (ofL v.cells)))) : OpP P ops ⟨some d, .alloc e, ty, pos, af, none⟩ F h K :=
  OpP.mk (ob := .cells v.cells.length (ofL v.cells)) (k := .ptr) (by simp only [pop, hz, rowP, forceL_eq, putsK_eq, forceN_eq]; rfl) hk
theorem op_build {fields : Array Field} {z : AV} {ps : List (Nat × AV)} {cs : List AV} {parts : Array (Nat × Operand)} (hz : zer P t = some z) (hu : P.underlying t = some (.struct fields)) (hp : evParts F parts.toList = some ps)
    (hf : fillA (placeA P fields) z.cells ps = some cs) (ha : fields.toList.all (fun f => (szo P f.type).isSome) = true) (hk : K (F.put d (.agg cs)) h) : OpP P ops ⟨some d, .build t parts, ty, pos, af, none⟩ F h K :=
  .val (by simp only [pop, hz, hu, hp, hf, ha, cond_true]) hk
theorem op_makeSlice {e : TypeId} {i : TypeInfo} {z : AV} {m : Nat} (hu : P.underlying t = some (.slice e)) (hx : ev F x = some (.int .i64 (.ofNat m))) (hy : ev F y = some (.int .i64 (.ofNat m))) (hi : P.info? e = some i) (hz : zer P e = some z)
    (h1 : i.size = 1) (h2 : i.bytes * m ≤ 281474976710656) (h3 : z.cells = [z]) (h4 : m < 9223372036854775808) (hk : K (F.put d (.slice h.next 0 m m 1 true)) (h.new (.cells m (ofL (List.replicate m z))))) :
    OpP P ops ⟨some d, .makeSlice t x y, ty, pos, af, none⟩ F h K :=
  OpP.mk (ob := .cells m (ofL (List.replicate m z))) (k := .slice m m 1) (by
    have hc : (Nat.ble m m && Nat.ble (i.bytes * m) 281474976710656 && Nat.beq z.cells.length 1 && Nat.blt 0 1 && Nat.blt m 9223372036854775808) = true := by
      simp [h2, h3, h4]
    have hr : (List.replicate m z.cells).flatten = List.replicate m z := by rw [h3]; induction m with
      | zero => rfl
      | succ m ih => simp [List.replicate_succ]
    simp only [pop, hu, hx, hy, hi, hz, h1, hc, cond_true, hr, rowP, forceL_eq, putsK_eq, forceN_eq, Nat.mul_one]; rfl) hk
theorem evParts_nil : evParts F [] = some [] := rfl
theorem evParts_cons {i : Nat} {r : List (Nat × Operand)} {vs : List (Nat × AV)} (h1 : ev F x = some v) (h2 : evParts F r = some vs) : evParts F ((i, x) :: r) = some ((i, v) :: vs) := by simp only [evParts, h1, h2]
theorem op_buildSlice {e : TypeId} {s len : Nat} {z : AV} {ps : List (Nat × AV)} {cs : List AV} {parts : Array (Nat × Operand)} (hu : P.underlying t = some (.slice e)) (hs : szo P e = some s) (hz : zer P e = some z) (hp : evParts F parts.toList = some ps)
    (hc : (Nat.ble (len * s) 16777216 && Nat.beq z.cells.length s && Nat.blt 0 s) = true) (hf : fillA (fun i => some (i * s, s)) (List.replicate len z.cells).flatten ps = some cs)
    (hk : K (F.put d (.slice h.next 0 len len s true)) (h.new (.cells cs.length (ofL cs)))) : OpP P ops ⟨some d, .buildSlice t len parts, ty, pos, af, none⟩ F h K :=
  OpP.mk (ob := .cells cs.length (ofL cs)) (k := .slice len len s) (by simp only [pop, hu, hs, hz, hp, hc, hf, cond_true, rowP, forceL_eq, putsK_eq, forceN_eq]; rfl) hk
theorem op_load {bb o : Nat} (hx : ev F x = some (.ptr bb o)) (hl : loadA P h t bb o = some v) (hk : K (F.put d v) h) : OpR P ops ⟨some d, .load t x, ty, pos, af, none⟩ F h K := .val (by simp only [rop, hx, hl]) hk
theorem loadA_cell {bb o m : Nat} {c : Tr AV} (ha : isAg P t = some false) (hb : h.obj bb = some (.cells m c)) (ho : o < m) (hv : c.at o = some v) : loadA P h t bb o = some v := by
  have : Nat.blt o m = true := by simp [ho]
  simp only [loadA, hb, ha, this, cond_true, hv]
theorem loadA_ro {bb o : Nat} {c : Tr AV} (ha : isAg P t = some false) (hb : h.obj bb = some (.ro c)) (hv : c.at o = some v) : loadA P h t bb o = some v := by
  simp only [loadA, hb, ha, hv]
theorem op_store {bb o m : Nat} {c : Tr AV} (hx : ev F x = some (.ptr bb o)) (hy : ev F y = some v) (hb : h.obj bb = some (.cells m c)) (hs : szo P t = some 1) (h1 : v.one = true) (ho : o < m) (hk : K F (h.set bb (.cells m (c.put o v)))) :
    OpE P X call ops [] ⟨none, .store t x y, ty, pos, af, none⟩ F h K := by
  have hc : v.cells = [v] := by cases v <;> first | rfl | cases h1
  have h2 : (Nat.beq [v].length 1 && Nat.ble (o + 1) m && [v].all AV.one) = true := by simp [h1]; omega
  refine OpE.done (v := .tup []) (h' := h.set bb (.cells m (c.put o v))) ?_ rfl hk
  simp only [effA, eop, hx, hy, storeA, hb, hs, hc, h2, cond_true, putsK_eq, H.setK_eq, puts]
theorem op_assignE (hx : ev F x = some v) (hk : K (F.put d v) h) : OpE P X call ops [] ⟨some d, .assign x, ty, pos, af, none⟩ F h K :=
  OpE.done (v := v) (h' := h) (by simp only [effA, eop, hx]) rfl hk
theorem op_call {g : FuncId} {args : Array Operand} {ts : Array TypeId} {vs : List AV} {h' : H} (ha : evs F args.toList = some vs) (hg : okFn P g = true) (hc : call (.fn g) vs h = some (v, h')) (hk : chk.all (chkR P (F.put d v) h' ops) = true) (hK : K (F.put d v) h') :
    OpE P X call ops chk ⟨some d, .call ⟨.value (.func g), args, ts⟩, ty, pos, af, none⟩ F h K := by
  refine OpE.done (v := v) (h' := h') ?_ hk hK
  have h0 : ev F (.func g) = some (.func (.func g) [] []) := rfl
  simp only [effA, eop, h0, ha, enterA, hg, cond_true, List.nil_append, List.append_nil, hc]
theorem op_calls {S : Sums} {dd : Nat} {g : FuncId} {args : Array Operand} {ts : Array TypeId} {vs : List AV} {Q : AV → H → Prop} (ha : evs F args.toList = some vs) (hg : okFn P g = true) (hc : CS P X S L dd g vs h Q) (hK : ∀ v h', Q v h' → K (F.put d v) h') :
    OpE P X (callA P X S L dd) ops [] ⟨some d, .call ⟨.value (.func g), args, ts⟩, ty, pos, af, none⟩ F h K := by
  obtain ⟨v, h', e, q⟩ := hc
  exact op_call ha hg e rfl (hK v h' q)
theorem obj_set_same {bb : Nat} {o : AObj} (ho : o ≠ .dead) : (h.set bb o).obj bb = some o := by rw [H.obj_set _ _ _ _ ho, if_pos rfl]
theorem obj_set_ne {bb cc : Nat} {o : AObj} {r : Option AObj} (hne : cc ≠ bb) (h1 : h.obj cc = r) : (h.set bb o).obj cc = r := by
  unfold H.obj H.set at *
  simp only [Tr.at_put, if_neg hne]; exact h1
theorem obj_kill_same {bb : Nat} : (h.set bb .dead).obj bb = none := by rw [H.obj_kill, if_pos rfl]
theorem obj_new_same {o : AObj} (ho : o ≠ .dead) : (h.new o).obj h.next = some o := by rw [H.obj_new _ _ _ ho, if_pos rfl]
theorem obj_new_ne {cc : Nat} {o : AObj} {r : Option AObj} (hne : cc ≠ h.next) (h1 : h.obj cc = r) : (h.new o).obj cc = r := by
  unfold H.obj H.new at *
  simp only [Tr.at_put, if_neg hne]; exact h1
def WF (h : H) : Prop := ∀ b, h.next ≤ b → h.obj b = none
theorem WF.new {o : AObj} (w : WF h) : WF (h.new o) := fun b hb => obj_new_ne (by have : h.next + 1 ≤ b := hb; omega) (w b (by have : h.next + 1 ≤ b := hb; omega))
theorem WF.lt {bb : Nat} {o : AObj} (w : WF h) (hb : h.obj bb = some o) : bb < h.next := by
  rcases Nat.lt_or_ge bb h.next with h1 | h1
  · exact h1
  · rw [w bb h1] at hb; cases hb
theorem WF.set {bb : Nat} {o : AObj} (w : WF h) (hb : bb < h.next) : WF (h.set bb o) := fun c hc => obj_set_ne (by have : h.next ≤ c := hc; omega) (w c hc)
structure Fr (B : Nat → Prop) (h h' : H) : Prop where
  wf : WF h'
  next : h.next ≤ h'.next
  obj : ∀ b, b < h.next → ¬ B b → h'.obj b = h.obj b
theorem Fr.refl {B : Nat → Prop} (w : WF h) : Fr B h h := ⟨w, Nat.le_refl _, fun _ _ _ => rfl⟩
theorem Fr.trans {B : Nat → Prop} {h' h'' : H} (a : Fr B h h') (b : Fr B h' h'') : Fr B h h'' :=
  ⟨b.wf, Nat.le_trans a.next b.next, fun c hc hn => (b.obj c (Nat.lt_of_lt_of_le hc a.next) hn).trans (a.obj c hc hn)⟩
theorem Fr.mono {B B' : Nat → Prop} {h' : H} (a : Fr B h h') (hB : ∀ b, B b → b < h.next → B' b) : Fr B' h h' := ⟨a.wf, a.next, fun c hc hn => a.obj c hc fun hb => hn (hB c hb hc)⟩
theorem Fr.new {B : Nat → Prop} {h' : H} (a : Fr B h h') (o : AObj) : Fr B h (h'.new o) :=
  ⟨a.wf.new, Nat.le_trans a.next (by show h'.next ≤ h'.next + 1; omega), fun c hc hn => obj_new_ne (by have := a.next; omega) (a.obj c hc hn)⟩
theorem Fr.set {B : Nat → Prop} {h' : H} (a : Fr B h h') {bb : Nat} (o : AObj) (hlt : bb < h'.next) (hb : bb < h.next → B bb) : Fr B h (h'.set bb o) :=
  ⟨a.wf.set hlt, a.next, fun c hc hn => obj_set_ne (fun e => hn (e ▸ hb (e ▸ hc))) (a.obj c hc hn)⟩
theorem Fr.get {B : Nat → Prop} {h' : H} (a : Fr B h h') (w : WF h) {bb : Nat} {o : AObj} (hb : h.obj bb = some o) (hn : ¬ B bb) : h'.obj bb = some o := (a.obj bb (w.lt hb) hn).trans hb
end Go.Abs
