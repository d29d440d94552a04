/- Tables from numbers to values, made for being looked up by the kernel, with their laws. No condition. -/
import Derived.CallsIn
import Derived.ChangeKeysEq
import Derived.KernelRfl
import Derived.Laws.Cells
import Derived.Laws.Entries
import Derived.Laws.IdiomCopy
import Derived.Laws.Sem
import Derived.Laws.World
import Derived.OrdersIn
import Derived.RangeFuncIn
import Derived.RangeFuncRecord
namespace Go.Abs
inductive BT (α : Type) where
  | nil
  | node (v : Option α) (l r : BT α)
variable {α : Type}
-- KERNEL BEGIN
noncomputable def BT.get (t : BT α) : List Bool → Option α :=
  BT.rec (motive := fun _ => List Bool → Option α) (fun _ => none)
    (fun v _ _ gl gr p => List.rec (motive := fun _ => Option α) v (fun b q _ => Bool.rec (motive := fun _ => Option α) (gl q) (gr q) b) p) t
noncomputable def BT.set (p : List Bool) : BT α → α → BT α :=
  List.rec (motive := fun _ => BT α → α → BT α)
    (fun t x => BT.rec (motive := fun _ => BT α) (.node (some x) .nil .nil) (fun _ l r _ _ => .node (some x) l r) t)
    (fun b _ ih t x => BT.rec (motive := fun _ => BT α)
      (Bool.rec (motive := fun _ => BT α) (.node none (ih .nil x) .nil) (.node none .nil (ih .nil x)) b)
      (fun v l r _ _ => Bool.rec (motive := fun _ => BT α) (.node v (ih l x) r) (.node v l (ih r x)) b) t) p
noncomputable def keyF (f : Nat) : Nat → List Bool :=
  Nat.rec (motive := fun _ => Nat → List Bool) (fun _ => [])
    (fun _ ih n => Nat.rec (motive := fun _ => List Bool) [] (fun m _ => (Nat.beq (Nat.mod m 2) 1) :: ih (Nat.div m 2)) n) f
-- KERNEL END
theorem BT.get_nil (p : List Bool) : (BT.nil : BT α).get p = none := rfl
theorem BT.get_node_nil (v : Option α) (l r : BT α) : (BT.node v l r).get [] = v := rfl
theorem BT.get_node_cons (v : Option α) (l r : BT α) (b : Bool) (p : List Bool) : (BT.node v l r).get (b :: p) = (if b then r else l).get p := by cases b <;> rfl
theorem BT.set_nil_nil (x : α) : BT.set [] .nil x = .node (some x) .nil .nil := rfl
theorem BT.set_nil_node (v : Option α) (l r : BT α) (x : α) : BT.set [] (.node v l r) x = .node (some x) l r := rfl
theorem BT.set_cons_nil (b : Bool) (p : List Bool) (x : α) : BT.set (b :: p) .nil x = if b then .node none .nil (BT.set p .nil x) else .node none (BT.set p .nil x) .nil := by cases b <;> rfl
theorem BT.set_cons_node (b : Bool) (p : List Bool) (v : Option α) (l r : BT α) (x : α) :
    BT.set (b :: p) (.node v l r) x = if b then .node v l (BT.set p r x) else .node v (BT.set p l x) r := by cases b <;> rfl
theorem BT.get_set (p : List Bool) : ∀ (t : BT α) (x : α) (q : List Bool), (BT.set p t x).get q = if q = p then some x else t.get q := by
  induction p with
  | nil =>
    intro t x q
    cases t with
    | nil => cases q <;> simp [BT.set_nil_nil, BT.get_node_nil, BT.get_node_cons, BT.get_nil]
    | node v l r => cases q <;> simp [BT.set_nil_node, BT.get_node_nil, BT.get_node_cons]
  | cons b p ih =>
    intro t x q
    cases t with
    | nil =>
      rw [BT.set_cons_nil]
      cases b <;> cases q with
      | nil => simp [BT.get_node_nil, BT.get_nil]
      | cons c q => cases c <;> simp [BT.get_node_cons, BT.get_nil, ih]
    | node v l r =>
      rw [BT.set_cons_node]
      cases b <;> cases q with
      | nil => simp [BT.get_node_nil]
      | cons c q => cases c <;> simp [BT.get_node_cons, ih]
noncomputable def bkey (n : Nat) : List Bool := keyF n n
def unkey : List Bool → Nat
  | [] => 0
  | b :: p => 2 * unkey p + (if b then 1 else 0) + 1
theorem keyF_zero (n : Nat) : keyF 0 n = [] := rfl
theorem keyF_succ_zero (f : Nat) : keyF (f + 1) 0 = [] := rfl
theorem keyF_succ_succ (f m : Nat) : keyF (f + 1) (m + 1) = (Nat.beq (m % 2) 1) :: keyF f (m / 2) := rfl
theorem unkey_keyF (f : Nat) : ∀ n, n ≤ f → unkey (keyF f n) = n := by
  induction f with
  | zero => intro n h; obtain rfl : n = 0 := by omega
            rfl
  | succ f ih =>
    intro n h
    cases n with
    | zero => rfl
    | succ m =>
      rw [keyF_succ_succ]
      simp only [unkey]
      rw [ih (m / 2) (by omega)]
      have hb : Nat.beq (m % 2) 1 = decide (m % 2 = 1) := by
        rcases Nat.mod_two_eq_zero_or_one m with h | h <;> rw [h] <;> rfl
      rw [hb]
      by_cases h1 : m % 2 = 1 <;> simp [h1] <;> omega
theorem bkey_inj {m n : Nat} (h : bkey m = bkey n) : m = n := by
  have := congrArg unkey h
  unfold bkey at this
  rw [unkey_keyF m m (Nat.le_refl _), unkey_keyF n n (Nat.le_refl _)] at this
  exact this
structure N16 (β : Type) where
  mk ::
  c0 : β
  c1 : β
  c2 : β
  c3 : β
  c4 : β
  c5 : β
  c6 : β
  c7 : β
  c8 : β
  c9 : β
  c10 : β
  c11 : β
  c12 : β
  c13 : β
  c14 : β
  c15 : β
inductive Dg where
  | d0 | d1 | d2 | d3 | d4 | d5 | d6 | d7 | d8 | d9 | d10 | d11 | d12 | d13 | d14 | d15
  deriving DecidableEq
universe u
variable {β : Type} {γ : Type u}
noncomputable def N16.get (d : Dg) : N16 β → β :=
  Dg.rec (motive := fun _ => N16 β → β)
    (fun t => N16.rec (motive := fun _ => β) (fun c0 _c1 _c2 _c3 _c4 _c5 _c6 _c7 _c8 _c9 _c10 _c11 _c12 _c13 _c14 _c15 => c0) t)
    (fun t => N16.rec (motive := fun _ => β) (fun _c0 c1 _c2 _c3 _c4 _c5 _c6 _c7 _c8 _c9 _c10 _c11 _c12 _c13 _c14 _c15 => c1) t)
    (fun t => N16.rec (motive := fun _ => β) (fun _c0 _c1 c2 _c3 _c4 _c5 _c6 _c7 _c8 _c9 _c10 _c11 _c12 _c13 _c14 _c15 => c2) t)
    (fun t => N16.rec (motive := fun _ => β) (fun _c0 _c1 _c2 c3 _c4 _c5 _c6 _c7 _c8 _c9 _c10 _c11 _c12 _c13 _c14 _c15 => c3) t)
    (fun t => N16.rec (motive := fun _ => β) (fun _c0 _c1 _c2 _c3 c4 _c5 _c6 _c7 _c8 _c9 _c10 _c11 _c12 _c13 _c14 _c15 => c4) t)
    (fun t => N16.rec (motive := fun _ => β) (fun _c0 _c1 _c2 _c3 _c4 c5 _c6 _c7 _c8 _c9 _c10 _c11 _c12 _c13 _c14 _c15 => c5) t)
    (fun t => N16.rec (motive := fun _ => β) (fun _c0 _c1 _c2 _c3 _c4 _c5 c6 _c7 _c8 _c9 _c10 _c11 _c12 _c13 _c14 _c15 => c6) t)
    (fun t => N16.rec (motive := fun _ => β) (fun _c0 _c1 _c2 _c3 _c4 _c5 _c6 c7 _c8 _c9 _c10 _c11 _c12 _c13 _c14 _c15 => c7) t)
    (fun t => N16.rec (motive := fun _ => β) (fun _c0 _c1 _c2 _c3 _c4 _c5 _c6 _c7 c8 _c9 _c10 _c11 _c12 _c13 _c14 _c15 => c8) t)
    (fun t => N16.rec (motive := fun _ => β) (fun _c0 _c1 _c2 _c3 _c4 _c5 _c6 _c7 _c8 c9 _c10 _c11 _c12 _c13 _c14 _c15 => c9) t)
    (fun t => N16.rec (motive := fun _ => β) (fun _c0 _c1 _c2 _c3 _c4 _c5 _c6 _c7 _c8 _c9 c10 _c11 _c12 _c13 _c14 _c15 => c10) t)
    (fun t => N16.rec (motive := fun _ => β) (fun _c0 _c1 _c2 _c3 _c4 _c5 _c6 _c7 _c8 _c9 _c10 c11 _c12 _c13 _c14 _c15 => c11) t)
    (fun t => N16.rec (motive := fun _ => β) (fun _c0 _c1 _c2 _c3 _c4 _c5 _c6 _c7 _c8 _c9 _c10 _c11 c12 _c13 _c14 _c15 => c12) t)
    (fun t => N16.rec (motive := fun _ => β) (fun _c0 _c1 _c2 _c3 _c4 _c5 _c6 _c7 _c8 _c9 _c10 _c11 _c12 c13 _c14 _c15 => c13) t)
    (fun t => N16.rec (motive := fun _ => β) (fun _c0 _c1 _c2 _c3 _c4 _c5 _c6 _c7 _c8 _c9 _c10 _c11 _c12 _c13 c14 _c15 => c14) t)
    (fun t => N16.rec (motive := fun _ => β) (fun _c0 _c1 _c2 _c3 _c4 _c5 _c6 _c7 _c8 _c9 _c10 _c11 _c12 _c13 _c14 c15 => c15) t) d
noncomputable def N16.setK (d : Dg) : N16 β → β → (N16 β → γ) → γ :=
  Dg.rec (motive := fun _ => N16 β → β → (N16 β → γ) → γ)
    (fun t x k => N16.rec (motive := fun _ => γ) (fun _c0 c1 c2 c3 c4 c5 c6 c7 c8 c9 c10 c11 c12 c13 c14 c15 => k (N16.mk x c1 c2 c3 c4 c5 c6 c7 c8 c9 c10 c11 c12 c13 c14 c15)) t)
    (fun t x k => N16.rec (motive := fun _ => γ) (fun c0 _c1 c2 c3 c4 c5 c6 c7 c8 c9 c10 c11 c12 c13 c14 c15 => k (N16.mk c0 x c2 c3 c4 c5 c6 c7 c8 c9 c10 c11 c12 c13 c14 c15)) t)
    (fun t x k => N16.rec (motive := fun _ => γ) (fun c0 c1 _c2 c3 c4 c5 c6 c7 c8 c9 c10 c11 c12 c13 c14 c15 => k (N16.mk c0 c1 x c3 c4 c5 c6 c7 c8 c9 c10 c11 c12 c13 c14 c15)) t)
    (fun t x k => N16.rec (motive := fun _ => γ) (fun c0 c1 c2 _c3 c4 c5 c6 c7 c8 c9 c10 c11 c12 c13 c14 c15 => k (N16.mk c0 c1 c2 x c4 c5 c6 c7 c8 c9 c10 c11 c12 c13 c14 c15)) t)
    (fun t x k => N16.rec (motive := fun _ => γ) (fun c0 c1 c2 c3 _c4 c5 c6 c7 c8 c9 c10 c11 c12 c13 c14 c15 => k (N16.mk c0 c1 c2 c3 x c5 c6 c7 c8 c9 c10 c11 c12 c13 c14 c15)) t)
    (fun t x k => N16.rec (motive := fun _ => γ) (fun c0 c1 c2 c3 c4 _c5 c6 c7 c8 c9 c10 c11 c12 c13 c14 c15 => k (N16.mk c0 c1 c2 c3 c4 x c6 c7 c8 c9 c10 c11 c12 c13 c14 c15)) t)
    (fun t x k => N16.rec (motive := fun _ => γ) (fun c0 c1 c2 c3 c4 c5 _c6 c7 c8 c9 c10 c11 c12 c13 c14 c15 => k (N16.mk c0 c1 c2 c3 c4 c5 x c7 c8 c9 c10 c11 c12 c13 c14 c15)) t)
    (fun t x k => N16.rec (motive := fun _ => γ) (fun c0 c1 c2 c3 c4 c5 c6 _c7 c8 c9 c10 c11 c12 c13 c14 c15 => k (N16.mk c0 c1 c2 c3 c4 c5 c6 x c8 c9 c10 c11 c12 c13 c14 c15)) t)
    (fun t x k => N16.rec (motive := fun _ => γ) (fun c0 c1 c2 c3 c4 c5 c6 c7 _c8 c9 c10 c11 c12 c13 c14 c15 => k (N16.mk c0 c1 c2 c3 c4 c5 c6 c7 x c9 c10 c11 c12 c13 c14 c15)) t)
    (fun t x k => N16.rec (motive := fun _ => γ) (fun c0 c1 c2 c3 c4 c5 c6 c7 c8 _c9 c10 c11 c12 c13 c14 c15 => k (N16.mk c0 c1 c2 c3 c4 c5 c6 c7 c8 x c10 c11 c12 c13 c14 c15)) t)
    (fun t x k => N16.rec (motive := fun _ => γ) (fun c0 c1 c2 c3 c4 c5 c6 c7 c8 c9 _c10 c11 c12 c13 c14 c15 => k (N16.mk c0 c1 c2 c3 c4 c5 c6 c7 c8 c9 x c11 c12 c13 c14 c15)) t)
    (fun t x k => N16.rec (motive := fun _ => γ) (fun c0 c1 c2 c3 c4 c5 c6 c7 c8 c9 c10 _c11 c12 c13 c14 c15 => k (N16.mk c0 c1 c2 c3 c4 c5 c6 c7 c8 c9 c10 x c12 c13 c14 c15)) t)
    (fun t x k => N16.rec (motive := fun _ => γ) (fun c0 c1 c2 c3 c4 c5 c6 c7 c8 c9 c10 c11 _c12 c13 c14 c15 => k (N16.mk c0 c1 c2 c3 c4 c5 c6 c7 c8 c9 c10 c11 x c13 c14 c15)) t)
    (fun t x k => N16.rec (motive := fun _ => γ) (fun c0 c1 c2 c3 c4 c5 c6 c7 c8 c9 c10 c11 c12 _c13 c14 c15 => k (N16.mk c0 c1 c2 c3 c4 c5 c6 c7 c8 c9 c10 c11 c12 x c14 c15)) t)
    (fun t x k => N16.rec (motive := fun _ => γ) (fun c0 c1 c2 c3 c4 c5 c6 c7 c8 c9 c10 c11 c12 c13 _c14 c15 => k (N16.mk c0 c1 c2 c3 c4 c5 c6 c7 c8 c9 c10 c11 c12 c13 x c15)) t)
    (fun t x k => N16.rec (motive := fun _ => γ) (fun c0 c1 c2 c3 c4 c5 c6 c7 c8 c9 c10 c11 c12 c13 c14 _c15 => k (N16.mk c0 c1 c2 c3 c4 c5 c6 c7 c8 c9 c10 c11 c12 c13 c14 x)) t) d
noncomputable def N16.set (d : Dg) (t : N16 β) (x : β) : N16 β := N16.setK d t x id
theorem N16.setK_eq (d : Dg) (t : N16 β) (x : β) (k : N16 β → γ) : N16.setK d t x k = k (N16.set d t x) := by cases d <;> cases t <;> rfl
theorem N16.get_same (d : Dg) (t : N16 β) (x : β) : (N16.set d t x).get d = x := by cases d <;> cases t <;> rfl
theorem N16.get_other (d e : Dg) (t : N16 β) (x : β) (h : d ≠ e) : (N16.set e t x).get d = t.get d := by
  cases d <;> cases e <;> first | exact absurd rfl h | (cases t; rfl)
noncomputable def N16.empty : N16 (Option β) := .mk none none none none none none none none none none none none none none none none
theorem N16.get_empty (d : Dg) : (N16.empty : N16 (Option β)).get d = none := by cases d <;> rfl
abbrev A2 (α : Type) := N16 (Option (N16 (Option α)))
noncomputable def A2.get (a b : Dg) (t : A2 α) : Option α := Option.rec (motive := fun _ => Option α) none (fun s => s.get b) (N16.get a t)
noncomputable def A2.setK (a b : Dg) (t : A2 α) (x : α) (k : A2 α → γ) : γ :=
  Option.rec (motive := fun _ => γ) (N16.setK b N16.empty (some x) fun s => N16.setK a t (some s) k) (fun s => N16.setK b s (some x) fun s => N16.setK a t (some s) k) (N16.get a t)
noncomputable def A2.set (a b : Dg) (t : A2 α) (x : α) : A2 α := A2.setK a b t x id
theorem A2.setK_eq (a b : Dg) (t : A2 α) (x : α) (k : A2 α → γ) : A2.setK a b t x k = k (A2.set a b t x) := by
  unfold A2.set A2.setK
  cases N16.get a t <;> simp only [N16.setK_eq, id]
theorem A2.get_empty (a b : Dg) : A2.get a b (N16.empty : A2 α) = none := by unfold A2.get; rw [N16.get_empty]
theorem A2.get_set (a b a' b' : Dg) (t : A2 α) (x : α) : A2.get a b (A2.set a' b' t x) = if a = a' ∧ b = b' then some x else A2.get a b t := by
  have key : ∃ s, A2.set a' b' t x = N16.set a' t (some (N16.set b' s (some x))) ∧ ∀ b, N16.get b s = A2.get a' b t := by
    unfold A2.set A2.setK A2.get
    cases hg : N16.get a' t with
    | none => exact ⟨N16.empty, by simp only [N16.setK_eq, id], fun b => N16.get_empty b⟩
    | some s => exact ⟨s, by simp only [N16.setK_eq, id], fun b => rfl⟩
  obtain ⟨s, h1, h2⟩ := key
  rw [h1]
  by_cases ha : a = a'
  · subst ha
    have e1 : A2.get a b (N16.set a t (some (N16.set b' s (some x)))) = N16.get b (N16.set b' s (some x)) := by
      unfold A2.get; rw [N16.get_same]
    rw [e1]
    by_cases hb : b = b'
    · subst hb; rw [N16.get_same]; simp
    · rw [N16.get_other _ _ _ _ hb, h2]; simp [hb]
  · have e1 : A2.get a b (N16.set a' t (some (N16.set b' s (some x)))) = A2.get a b t := by
      unfold A2.get; rw [N16.get_other _ _ _ _ ha]
    rw [e1]; simp [ha]
abbrev A4 (α : Type) := A2 (A2 α)
noncomputable def A4.get (a b c d : Dg) (t : A4 α) : Option α := Option.rec (motive := fun _ => Option α) none (fun s => A2.get c d s) (A2.get a b t)
noncomputable def A4.setK (a b c d : Dg) (t : A4 α) (x : α) (k : A4 α → γ) : γ :=
  Option.rec (motive := fun _ => γ) (A2.setK c d N16.empty x fun s => A2.setK a b t s k) (fun s => A2.setK c d s x fun s => A2.setK a b t s k) (A2.get a b t)
noncomputable def A4.set (a b c d : Dg) (t : A4 α) (x : α) : A4 α := A4.setK a b c d t x id
theorem A4.setK_eq (a b c d : Dg) (t : A4 α) (x : α) (k : A4 α → γ) : A4.setK a b c d t x k = k (A4.set a b c d t x) := by
  unfold A4.set A4.setK
  cases A2.get a b t <;> simp only [A2.setK_eq, id]
theorem A4.get_empty (a b c d : Dg) : A4.get a b c d (N16.empty : A4 α) = none := by unfold A4.get; rw [A2.get_empty]
theorem A4.get_set (a b c d a' b' c' d' : Dg) (t : A4 α) (x : α) : A4.get a b c d (A4.set a' b' c' d' t x) = if a = a' ∧ b = b' ∧ c = c' ∧ d = d' then some x else A4.get a b c d t := by
  have key : ∃ s, A4.set a' b' c' d' t x = A2.set a' b' t (A2.set c' d' s x) ∧ ∀ c d, A2.get c d s = A4.get a' b' c d t := by
    unfold A4.set A4.setK A4.get
    cases hg : A2.get a' b' t with
    | none => exact ⟨N16.empty, by simp only [A2.setK_eq, id], fun c d => A2.get_empty c d⟩
    | some s => exact ⟨s, by simp only [A2.setK_eq, id], fun c d => rfl⟩
  obtain ⟨s, h1, h2⟩ := key
  rw [h1]
  by_cases hab : a = a' ∧ b = b'
  · obtain ⟨rfl, rfl⟩ := hab
    have e1 : A4.get a b c d (A2.set a b t (A2.set c' d' s x)) = A2.get c d (A2.set c' d' s x) := by
      unfold A4.get; rw [A2.get_set]; simp
    rw [e1, A2.get_set, h2]; simp
  · have e1 : A4.get a b c d (A2.set a' b' t (A2.set c' d' s x)) = A4.get a b c d t := by
      unfold A4.get; rw [A2.get_set, if_neg hab]
    rw [e1, if_neg (fun h => hab ⟨h.1, h.2.1⟩)]
inductive Ky where
  | s (a b : Dg)
  | m (a b c d : Dg)
  | b (p : List Bool)
  deriving DecidableEq
def dgs : List Dg := [.d0, .d1, .d2, .d3, .d4, .d5, .d6, .d7, .d8, .d9, .d10, .d11, .d12, .d13, .d14, .d15]
def dg (n : Nat) : Dg := dgs.getD n .d0
noncomputable def undg (d : Dg) : Nat := Dg.rec (motive := fun _ => Nat) 0 1 2 3 4 5 6 7 8 9 10 11 12 13 14 15 d
theorem undg_dg : ∀ i, i < 16 → undg (dg i) = i
  | 0, _ | 1, _ | 2, _ | 3, _ | 4, _ | 5, _ | 6, _ | 7, _ | 8, _ | 9, _ | 10, _ | 11, _ | 12, _ | 13, _ | 14, _ | 15, _ => rfl
  | n + 16, h => absurd h (by omega)
theorem dg_inj (i : Nat) (hi : i < 16) (j : Nat) (hj : j < 16) (h : dg i = dg j) : i = j := by
  have := congrArg undg h
  rwa [undg_dg i hi, undg_dg j hj] at this
noncomputable def key (n : Nat) : Ky :=
  bif Nat.blt n 256 then .s (dg (n / 16)) (dg (n % 16))
  else bif Nat.blt n 65536 then .m (dg (n / 4096)) (dg (n / 256 % 16)) (dg (n / 16 % 16)) (dg (n % 16))
  else .b (bkey n)
theorem key_cases (n : Nat) : (n < 256 ∧ key n = .s (dg (n / 16)) (dg (n % 16))) ∨ (256 ≤ n ∧ n < 65536 ∧ key n = .m (dg (n / 4096)) (dg (n / 256 % 16)) (dg (n / 16 % 16)) (dg (n % 16))) ∨ (65536 ≤ n ∧ key n = .b (bkey n)) := by
  unfold key
  by_cases h1 : n < 256
  · exact .inl ⟨h1, by rw [Bool.cond_eq_ite, if_pos (by simpa using h1)]⟩
  · by_cases h2 : n < 65536
    · exact .inr (.inl ⟨by omega, h2, by rw [Bool.cond_eq_ite, if_neg (by simpa using h1), Bool.cond_eq_ite, if_pos (by simpa using h2)]⟩)
    · exact .inr (.inr ⟨by omega, by rw [Bool.cond_eq_ite, if_neg (by simpa using h1), Bool.cond_eq_ite, if_neg (by simpa using h2)]⟩)
theorem key_inj {m n : Nat} (h : key m = key n) : m = n := by
  rcases key_cases m with ⟨h1, e1⟩ | ⟨h1, h1', e1⟩ | ⟨h1, e1⟩ <;> rcases key_cases n with ⟨h2, e2⟩ | ⟨h2, h2', e2⟩ | ⟨h2, e2⟩ <;> rw [e1, e2] at h
  · injection h with h3 h4
    have := dg_inj _ (by omega) _ (by omega) h3
    have := dg_inj _ (by omega) _ (by omega) h4
    omega
  · cases h
  · cases h
  · cases h
  · injection h with h3 h4 h5 h6
    have := dg_inj _ (by omega) _ (by omega) h3
    have := dg_inj _ (by omega) _ (by omega) h4
    have := dg_inj _ (by omega) _ (by omega) h5
    have := dg_inj _ (by omega) _ (by omega) h6
    omega
  · cases h
  · cases h
  · cases h
  · injection h with h3; exact bkey_inj h3
structure Tr (α : Type) where
  mk ::
  s : A2 α
  m : Option (A4 α)
  b : BT α
noncomputable def Tr.nil : Tr α := .mk N16.empty none .nil
noncomputable def Tr.getK (k : Ky) : Tr α → Option α :=
  Ky.rec (motive := fun _ => Tr α → Option α)
    (fun a b t => Tr.rec (motive := fun _ => Option α) (fun s _ _ => A2.get a b s) t)
    (fun a b c d t => Tr.rec (motive := fun _ => Option α) (fun _ m _ => Option.rec (motive := fun _ => Option α) none (fun m => A4.get a b c d m) m) t)
    (fun p t => Tr.rec (motive := fun _ => Option α) (fun _ _ b => BT.get b p) t) k
noncomputable def Tr.setKy (k : Ky) : Tr α → α → (Tr α → γ) → γ :=
  Ky.rec (motive := fun _ => Tr α → α → (Tr α → γ) → γ)
    (fun a b t x k => Tr.rec (motive := fun _ => γ) (fun s m r => A2.setK a b s x fun s => k (.mk s m r)) t)
    (fun a b c d t x k => Tr.rec (motive := fun _ => γ) (fun s m r => Option.rec (motive := fun _ => γ) (A4.setK a b c d N16.empty x fun m => k (.mk s (some m) r)) (fun m => A4.setK a b c d m x fun m => k (.mk s (some m) r)) m) t)
    (fun p t x k => Tr.rec (motive := fun _ => γ) (fun s m r => k (.mk s m (BT.set p r x))) t) k
noncomputable def Tr.at (t : Tr α) (n : Nat) : Option α := Tr.getK (key n) t
noncomputable def Tr.put (t : Tr α) (n : Nat) (x : α) : Tr α := Tr.setKy (key n) t x id
noncomputable def Tr.putK (t : Tr α) (n : Nat) (x : α) (k : Tr α → γ) : γ := Tr.setKy (key n) t x k
theorem Tr.putK_eq (t : Tr α) (n : Nat) (x : α) (k : Tr α → γ) : t.putK n x k = k (t.put n x) := by
  unfold Tr.putK Tr.put
  obtain ⟨s, m, r⟩ := t
  cases key n with
  | s a b => show A2.setK a b s x _ = k (A2.setK a b s x _); rw [A2.setK_eq, A2.setK_eq]; rfl
  | m a b c d =>
    cases m with
    | none => show A4.setK a b c d N16.empty x _ = k (A4.setK a b c d N16.empty x _); rw [A4.setK_eq, A4.setK_eq]; rfl
    | some m => show A4.setK a b c d m x _ = k (A4.setK a b c d m x _); rw [A4.setK_eq, A4.setK_eq]; rfl
  | b p => rfl
theorem Tr.at_put (t : Tr α) (n m : Nat) (x : α) : (t.put n x).at m = if m = n then some x else t.at m := by
  have hk : (m = n) ↔ (key m = key n) := ⟨fun h => by rw [h], key_inj⟩
  have : (t.put n x).at m = if key m = key n then some x else t.at m := by
    unfold Tr.at Tr.put
    obtain ⟨s, M, r⟩ := t
    generalize key m = km
    generalize key n = kn
    cases kn with
    | s a b =>
      have e : Tr.setKy (.s a b) (Tr.mk s M r) x id = Tr.mk (A2.set a b s x) M r := by
        show A2.setK a b s x _ = _; rw [A2.setK_eq]; rfl
      rw [e]
      cases km with
      | s a' b' => show A2.get a' b' (A2.set a b s x) = _; rw [A2.get_set]; simp; rfl
      | m a' b' c' d' => simp; rfl
      | b p => simp; rfl
    | m a b c d =>
      have e : ∃ M', Tr.setKy (.m a b c d) (Tr.mk s M r) x id = Tr.mk s (some (A4.set a b c d M' x)) r ∧ ∀ a b c d, A4.get a b c d M' = Tr.getK (.m a b c d) (Tr.mk s M r) := by
        cases M with
        | none => exact ⟨N16.empty, by show A4.setK a b c d N16.empty x _ = _; rw [A4.setK_eq]; rfl, fun a b c d => A4.get_empty a b c d⟩
        | some M => exact ⟨M, by show A4.setK a b c d M x _ = _; rw [A4.setK_eq]; rfl, fun a b c d => rfl⟩
      obtain ⟨M', e1, e2⟩ := e
      rw [e1]
      cases km with
      | s a' b' => simp; rfl
      | m a' b' c' d' =>
        show A4.get a' b' c' d' (A4.set a b c d M' x) = _
        rw [A4.get_set, e2]; simp
      | b p => simp; rfl
    | b q =>
      cases km with
      | s a' b' => simp; rfl
      | m a' b' c' d' => simp; rfl
      | b p => show BT.get (BT.set q r x) p = _; rw [BT.get_set]; simp; rfl
  rw [this]
  by_cases h : m = n
  · rw [if_pos h, if_pos (hk.1 h)]
  · rw [if_neg h, if_neg (fun e => h (hk.2 e))]
theorem Tr.at_nil (n : Nat) : (Tr.nil : Tr α).at n = none := by
  unfold Tr.at
  cases key n with
  | s a b => exact A2.get_empty a b
  | m a b c d => rfl
  | b p => rfl
end Go.Abs

/- Abstract values, the heap of logical blocks, and how they stand to the model's values and worlds. No condition. -/
namespace Go.Abs
inductive AV where
  | bool (b : Bool)
  | int (k : IntKind) (n : Int)
  | str (s : ByteArray)
  | ptr (b o : Nat)
  | pnil
  | slice (b o len cap sz : Nat) (ex : Bool)
  | snil
  | map (r : Nat)
  | mnil
  | func (fn : Fn) (first captured : List AV)
  | fnil
  | iface (t : TypeId) (v : AV)
  | inil
  | agg (cs : List AV)
  | tup (vs : List AV)
structure Pl where
  blk : Nat
  base : Nat
  ext : Nat
abbrev Io := Nat → Option Pl
def isYield : Fn → Bool
  | .yield _ => true
  | _ => false
inductive VR (ι : Io) : AV → Value → Prop where
  | bool (b : Bool) : VR ι (.bool b) (.bool b)
  | int (k : IntKind) (n : Int) : VR ι (.int k n) (.int k n)
  | str (s : ByteArray) : VR ι (.str s) (.string s)
  | ptr {b o : Nat} {p : Pl} (h : ι b = some p) : VR ι (.ptr b o) (.pointer (some ⟨p.blk, p.base + o, none⟩))
  | pnil : VR ι .pnil (.pointer none)
  | slice {b o len cap sz : Nat} {ex : Bool} {a : Addr} {rcap : Nat} (h1 : len ≤ cap) (h2 : cap ≤ rcap) (h3 : ex = true → rcap = cap)
      (h4 : 0 < rcap → ∃ p, ι b = some p ∧ a = ⟨p.blk, p.base + o, none⟩ ∧ (ex = false → o + rcap * sz ≤ p.ext)) (h5 : ex = false → ∃ p, ι b = some p) : VR ι (.slice b o len cap sz ex) (.slice (some a) len rcap)
  | snil : VR ι .snil (.slice none 0 0)
  | map {r : Nat} {p : Pl} (h : ι r = some p) : VR ι (.map r) (.map (some p.blk))
  | mnil : VR ι .mnil (.map none)
  | func {fn : Fn} {first cap : List AV} {first' cap' : Array Value} (hf : isYield fn = false) (h1 : first.length = first'.size) (h2 : cap.length = cap'.size)
      (h3 : ∀ (i : Nat) a u, first[i]? = some a → first'[i]? = some u → VR ι a u) (h4 : ∀ (i : Nat) a u, cap[i]? = some a → cap'[i]? = some u → VR ι a u) :
      VR ι (.func fn first cap) (.func fn first' cap')
  | yield {l : Nat} {p : Pl} (h : ι l = some p) : VR ι (.func (.yield l) [] []) (.func (.yield p.blk) #[] #[])
  | fnil : VR ι .fnil .nilFunc
  | iface {t : TypeId} {v : AV} {u : Value} (h : VR ι v u) : VR ι (.iface t v) (.iface t u)
  | inil : VR ι .inil .nilIface
  | agg {cs : List AV} {us : Array Value} (h1 : cs.length = us.size) (h2 : ∀ (i : Nat) a u, cs[i]? = some a → us[i]? = some u → VR ι a u) : VR ι (.agg cs) (.agg us)
  | tup {cs : List AV} {us : Array Value} (h1 : cs.length = us.size) (h2 : ∀ (i : Nat) a u, cs[i]? = some a → us[i]? = some u → VR ι a u) : VR ι (.tup cs) (.tuple us)
def Ext (ι ι' : Io) : Prop := ∀ b p, ι b = some p → ι' b = some p
theorem Ext.refl (ι : Io) : Ext ι ι := fun _ _ h => h
theorem Ext.trans {ι ι' ι'' : Io} (h : Ext ι ι') (h' : Ext ι' ι'') : Ext ι ι'' := fun b p e => h' b p (h b p e)
theorem VR.mono {ι ι' : Io} (h : Ext ι ι') {v : AV} {u : Value} (hv : VR ι v u) : VR ι' v u := by
  induction hv with
  | bool b => exact .bool b
  | int k n => exact .int k n
  | str s => exact .str s
  | ptr hb => exact .ptr (h _ _ hb)
  | pnil => exact .pnil
  | slice h1 h2 h3 h4 h5 => exact .slice h1 h2 h3 (fun hr => let ⟨p, a, b, c⟩ := h4 hr; ⟨p, h _ _ a, b, c⟩) (fun he => let ⟨p, a⟩ := h5 he; ⟨p, h _ _ a⟩)
  | snil => exact .snil
  | map hb => exact .map (h _ _ hb)
  | mnil => exact .mnil
  | func hf h1 h2 _ _ ih3 ih4 => exact .func hf h1 h2 ih3 ih4
  | yield hb => exact .yield (h _ _ hb)
  | fnil => exact .fnil
  | iface _ ih => exact .iface ih
  | inil => exact .inil
  | agg h1 _ ih => exact .agg h1 ih
  | tup h1 _ ih => exact .tup h1 ih
structure VRs (ι : Io) (vs : List AV) (us : List Value) : Prop where
  len : vs.length = us.length
  at_ : ∀ (i : Nat) a u, vs[i]? = some a → us[i]? = some u → VR ι a u
theorem VRs.mono {ι ι' : Io} (h : Ext ι ι') {vs : List AV} {us : List Value} (hv : VRs ι vs us) : VRs ι' vs us :=
  ⟨hv.len, fun i a u h1 h2 => (hv.at_ i a u h1 h2).mono h⟩
theorem VRs.nil (ι : Io) : VRs ι [] [] := ⟨rfl, fun i a u h => by simp at h⟩
theorem VRs.cons {ι : Io} {v : AV} {u : Value} {vs : List AV} {us : List Value} (h : VR ι v u) (hs : VRs ι vs us) : VRs ι (v :: vs) (u :: us) :=
  ⟨by simp [hs.len], fun i a b h1 h2 => by
    cases i with
    | zero => simp at h1 h2; exact h1 ▸ h2 ▸ h
    | succ i => simp at h1 h2; exact hs.at_ i a b h1 h2⟩
theorem VRs.append {ι : Io} {vs vs' : List AV} {us us' : List Value} (h : VRs ι vs us) (h' : VRs ι vs' us') : VRs ι (vs ++ vs') (us ++ us') :=
  ⟨by simp [h.len, h'.len], fun i a u h1 h2 => by
    rcases Nat.lt_or_ge i vs.length with hl | hl
    · rw [List.getElem?_append_left hl] at h1
      rw [List.getElem?_append_left (h.len ▸ hl)] at h2
      exact h.at_ i a u h1 h2
    · rw [List.getElem?_append_right hl] at h1
      rw [List.getElem?_append_right (h.len ▸ hl)] at h2
      rw [← h.len] at h2
      exact h'.at_ _ a u h1 h2⟩
theorem VRs.head {ι : Io} {v : AV} {vs : List AV} {us : List Value} (h : VRs ι (v :: vs) us) : ∃ u us', us = u :: us' ∧ VR ι v u ∧ VRs ι vs us' := by
  cases us with
  | nil => have := h.len; simp at this
  | cons u us => exact ⟨u, us, rfl, h.at_ 0 v u rfl rfl, by have := h.len; simpa using this, fun i a b h1 h2 => h.at_ (i + 1) a b (by simpa using h1) (by simpa using h2)⟩
theorem VRs.isNil {ι : Io} {us : List Value} (h : VRs ι [] us) : us = [] := by
  have := h.len; cases us with
  | nil => rfl
  | cons => simp at this
theorem VRs.get {ι : Io} {vs : List AV} {us : List Value} (h : VRs ι vs us) {i : Nat} {a : AV} (ha : vs[i]? = some a) : ∃ u, us[i]? = some u ∧ VR ι a u := by
  have hlt : i < us.length := h.len ▸ (List.getElem?_eq_some_iff.1 ha).1
  exact ⟨us[i], by simp [hlt], h.at_ i a _ ha (by simp [hlt])⟩
theorem VRs.drop {ι : Io} {vs : List AV} {us : List Value} (h : VRs ι vs us) (n : Nat) : VRs ι (vs.drop n) (us.drop n) :=
  ⟨by simp [h.len], fun i a u h1 h2 => by
    rw [List.getElem?_drop] at h1 h2
    exact h.at_ _ a u h1 h2⟩
theorem VRs.take {ι : Io} {vs : List AV} {us : List Value} (h : VRs ι vs us) (n : Nat) : VRs ι (vs.take n) (us.take n) :=
  ⟨by simp [h.len], fun i a u h1 h2 => by
    rw [List.getElem?_take] at h1 h2
    split at h1
    · rename_i hi; rw [if_pos hi] at h2; exact h.at_ _ a u h1 h2
    · simp at h1⟩
theorem VRs.of_get {ι : Io} {vs : List AV} {us : List Value} (hl : vs.length = us.length) (h : ∀ (i : Nat) (a : AV), vs[i]? = some a → ∃ u, us[i]? = some u ∧ VR ι a u) : VRs ι vs us :=
  ⟨hl, fun i a u h1 h2 => by obtain ⟨u', h3, h4⟩ := h i a h1; rw [h2] at h3; cases h3; exact h4⟩
theorem VR.agg_iff {ι : Io} {cs : List AV} {u : Value} : VR ι (.agg cs) u ↔ ∃ us : List Value, u = .agg us.toArray ∧ VRs ι cs us := by
  constructor
  · intro h; cases h with
    | agg h1 h2 => rename_i us; exact ⟨us.toList, by simp, by simpa using h1, fun i a u h3 h4 => h2 i a u h3 (by simpa using h4)⟩
  · rintro ⟨us, rfl, h⟩; exact .agg (by simpa using h.len) fun i a u h1 h2 => h.at_ i a u h1 (by simpa using h2)
theorem VR.tup_iff {ι : Io} {cs : List AV} {u : Value} : VR ι (.tup cs) u ↔ ∃ us : List Value, u = .tuple us.toArray ∧ VRs ι cs us := by
  constructor
  · intro h; cases h with
    | tup h1 h2 => rename_i us; exact ⟨us.toList, by simp, by simpa using h1, fun i a u h3 h4 => h2 i a u h3 (by simpa using h4)⟩
  · rintro ⟨us, rfl, h⟩; exact .tup (by simpa using h.len) fun i a u h1 h2 => h.at_ i a u h1 (by simpa using h2)
def AV.cells : AV → List AV
  | .agg cs => cs
  | v => [v]
theorem VR.cells {ι : Io} {v : AV} {u : Value} (h : VR ι v u) : VRs ι v.cells u.cells.toList := by
  cases h with
  | agg h1 h2 => rename_i cs us; simp only [AV.cells, Value.cells]; exact ⟨by simpa using h1, fun i a u h3 h4 => h2 i a u h3 (by simpa using h4)⟩
  | _ => exact .cons (by constructor <;> assumption) (.nil _)
def AV.one : AV → Bool
  | .agg _ => false
  | .tup _ => false
  | _ => true
def ofV1 : Value → Option AV
  | .bool b => some (.bool b)
  | .int k n => some (.int k n)
  | .string s => some (.str s)
  | .pointer none => some .pnil
  | .slice none 0 0 => some .snil
  | .map none => some .mnil
  | .func (.func f) ⟨[]⟩ ⟨[]⟩ => some (.func (.func f) [] [])
  | .nilFunc => some .fnil
  | .nilIface => some .inil
  | _ => none
def ofVs : List Value → Option (List AV)
  | [] => some []
  | v :: vs => match ofV1 v with
    | none => none
    | some a => match ofVs vs with
      | none => none
      | some as => some (a :: as)
def ofV : Value → Option AV
  | .agg ⟨cs⟩ => match ofVs cs with
    | none => none
    | some as => some (.agg as)
  | .tuple ⟨cs⟩ => match ofVs cs with
    | none => none
    | some as => some (.tup as)
  | v => ofV1 v
theorem ofV1_vr {ι : Io} {v : Value} {a : AV} (h : ofV1 v = some a) : VR ι a v := by
  unfold ofV1 at h
  split at h <;> cases h <;> first
    | exact .bool _ | exact .int _ _ | exact .str _ | exact .pnil | exact .snil | exact .mnil | exact .fnil | exact .inil
    | exact .func rfl rfl rfl (fun i a u h => by simp at h) (fun i a u h => by simp at h)
theorem ofVs_vr {ι : Io} : ∀ {vs : List Value} {as : List AV}, ofVs vs = some as → VRs ι as vs
  | [], as, h => by cases h; exact .nil _
  | v :: vs, as, h => by
    simp only [ofVs] at h
    split at h
    · cases h
    · rename_i a ha
      split at h
      · cases h
      · rename_i as' has; cases h; exact .cons (ofV1_vr ha) (ofVs_vr has)
theorem ofV_vr {ι : Io} {v : Value} {a : AV} (h : ofV v = some a) : VR ι a v := by
  unfold ofV at h
  split at h
  · split at h
    · cases h
    · rename_i as has; cases h; exact VR.agg_iff.2 ⟨_, rfl, ofVs_vr has⟩
  · split at h
    · cases h
    · rename_i as has; cases h; exact VR.tup_iff.2 ⟨_, rfl, ofVs_vr has⟩
  · exact ofV1_vr h
abbrev Fm := Tr AV
def FR (ι : Io) (F : Fm) (tmps : Array Value) : Prop := ∀ t v, F.at t = some v → ∃ u, tmps[t]? = some u ∧ VR ι v u
theorem FR.mono {ι ι' : Io} (h : Ext ι ι') {F : Fm} {tmps : Array Value} (hf : FR ι F tmps) : FR ι' F tmps :=
  fun t v hv => let ⟨u, h1, h2⟩ := hf t v hv; ⟨u, h1, h2.mono h⟩
noncomputable def ev (F : Fm) : Operand → Option AV
  | .tmp t => F.at t
  | .const v => ofV v
  | .global _ => none
  | .func f => some (.func (.func f) [] [])
theorem FR.ev {ι : Io} {F : Fm} {a : Act} (hf : FR ι F a.tmps) {x : Operand} {v : AV} (h : ev F x = some v) : VR ι v (a.eval x) := by
  cases x with
  | tmp t =>
    obtain ⟨u, h1, h2⟩ := hf t v h
    simp only [Act.eval, Array.getD_eq_getD_getElem?, h1, Option.getD_some]; exact h2
  | const c => exact ofV_vr h
  | global g => cases h
  | func f => cases h; exact .func rfl rfl rfl (fun i a u h => by simp at h) (fun i a u h => by simp at h)
noncomputable def evs (F : Fm) : List Operand → Option (List AV)
  | [] => some []
  | x :: xs => match ev F x with
    | none => none
    | some v => match evs F xs with
      | none => none
      | some vs => some (v :: vs)
theorem FR.evs {ι : Io} {F : Fm} {a : Act} (hf : FR ι F a.tmps) : ∀ {xs : List Operand} {vs : List AV}, Go.Abs.evs F xs = some vs → VRs ι vs (xs.map a.eval)
  | [], vs, h => by cases h; exact .nil _
  | x :: xs, vs, h => by
    simp only [Go.Abs.evs] at h
    split at h
    · cases h
    · rename_i v hv
      split at h
      · cases h
      · rename_i vs' hvs; cases h; exact .cons (hf.ev hv) (FR.evs hf hvs)
structure Ent where
  key : AV
  val : AV
  born : Nat
inductive AObj where
  | cells (n : Nat) (c : Tr AV)
  | map (es : List Ent) (clock : Nat)
  | iter (m : Option Nat) (since : Nat) (seen : List Nat) (last : Nat)
  | loop (state : LoopState) (pending : Option Code) (n : Nat) (fr : Fm) (params : List Tmp) (assign body : Code) (defers : Nat)
  | defr
  | dead
  | ro (c : Tr AV)
def AObj.rw : AObj → Bool
  | .ro _ => false
  | _ => true
structure H where
  t : Tr AObj
  next : Nat
noncomputable def H.obj (h : H) (b : Nat) : Option AObj :=
  match h.t.at b with
  | some .dead => none
  | x => x
noncomputable def H.set (h : H) (b : Nat) (o : AObj) : H := ⟨h.t.put b o, h.next⟩
noncomputable def H.new (h : H) (o : AObj) : H := ⟨h.t.put h.next o, h.next + 1⟩
theorem H.obj_set (h : H) (b c : Nat) (o : AObj) (ho : o ≠ .dead) : (h.set b o).obj c = if c = b then some o else h.obj c := by
  unfold H.obj H.set
  simp only [Tr.at_put]
  by_cases e : c = b
  · simp only [e, if_true]; split
    · rename_i hd; cases hd; exact absurd rfl ho
    · rfl
  · simp [e]
theorem H.obj_kill (h : H) (b c : Nat) : (h.set b .dead).obj c = if c = b then none else h.obj c := by
  unfold H.obj H.set
  simp only [Tr.at_put]
  by_cases e : c = b <;> simp [e]
theorem H.obj_new (h : H) (c : Nat) (o : AObj) (ho : o ≠ .dead) : (h.new o).obj c = if c = h.next then some o else h.obj c := by
  unfold H.obj H.new
  simp only [Tr.at_put]
  by_cases e : c = h.next
  · simp only [e, if_true]; split
    · rename_i hd; cases hd; exact absurd rfl ho
    · rfl
  · simp [e]
def MR (ι : Io) : Option Nat → Option Nat → Prop
  | none, none => True
  | some r, some r' => ∃ p, ι r = some p ∧ p.blk = r'
  | _, _ => False
def OR (ι : Io) (p : Pl) (w : World) : AObj → Prop
  | .cells n c => n ≤ p.ext ∧ (∀ i, i < p.ext → (w.cell? ⟨p.blk, p.base + i, none⟩).isSome = true ∧ w.frozen? ⟨p.blk, p.base + i, none⟩ = false) ∧
      ∀ i v, i < n → c.at i = some v → ∃ u, w.cell? ⟨p.blk, p.base + i, none⟩ = some u ∧ VR ι v u
  | .map es cl => ∃ es' : Array MapEntry, w.heap[p.blk]? = some (.map es' cl) ∧ es.length = es'.size ∧
      ∀ (i : Nat) (e : Ent) (e' : MapEntry), es[i]? = some e → es'[i]? = some e' → VR ι e.key e'.key ∧ VR ι e.val e'.val ∧ e.born = e'.born
  | .iter m since seen last => ∃ m', w.heap[p.blk]? = some (.mapIter m' since seen.toArray last) ∧ MR ι m m' ∧ p.base = 0
  | .loop st pend n fr ps as body d => ∃ tmps d' fn, w.heap[p.blk]? = some (.loop { state := st, pending := pend, fn := fn, tmps := tmps, params := ps.toArray, assign := as, body := body, defers := d' }) ∧
      tmps.size = n ∧ FR ι fr tmps ∧ ∃ q, ι d = some q ∧ q.blk = d'
  | .defr => w.heap[p.blk]? = some (.deferred (some []))
  | .dead => True
  | .ro c => ∀ i v, c.at i = some v → ∃ u, w.cell? ⟨p.blk, p.base + i, none⟩ = some u ∧ VR ι v u
structure R (ι : Io) (h : H) (w : World) : Prop where
  obj : ∀ b o p, h.obj b = some o → ι b = some p → OR ι p w o
  inj : ∀ b b' o o' p p', h.obj b = some o → h.obj b' = some o' → ι b = some p → ι b' = some p' → p.blk = p'.blk → b = b'
  fresh : ∀ b, h.next ≤ b → ι b = none
  bound : ∀ b p, ι b = some p → p.blk < w.heap.size
  wf : ∀ b, h.next ≤ b → h.obj b = none
structure Keep (ι ι' : Io) (h h' : H) (w w' : World) : Prop where
  ext : Ext ι ι'
  next : h.next ≤ h'.next
  unreal : ∀ b, b < h.next → ι b = none → ι' b = none ∧ h'.t.at b = h.t.at b
  own : ∀ b p o, ι' b = some p → h'.obj b = some o → p.blk < w.heap.size → ∃ b0 p0 o0, ι b0 = some p0 ∧ h.obj b0 = some o0 ∧ (o.rw = true → o0.rw = true) ∧ p0.blk = p.blk
  os : w'.os = w.os
  tape : w'.tape = w.tape
  output : w'.output = w.output
  size : w.heap.size ≤ w'.heap.size
  frame : ∀ k, k < w.heap.size → (∀ b p o, ι b = some p → h.obj b = some o → o.rw = true → p.blk ≠ k) → w'.heap[k]? = w.heap[k]?
theorem Keep.refl (ι : Io) (h : H) (w : World) : Keep ι ι h h w w :=
  ⟨.refl ι, Nat.le_refl _, fun _b _ hb => ⟨hb, rfl⟩, fun b p o h1 h2 _ => ⟨b, p, o, h1, h2, id, rfl⟩, rfl, rfl, rfl, Nat.le_refl _, fun _ _ _ => rfl⟩
theorem Keep.trans {ι ι' ι'' : Io} {h h' h'' : H} {w w' w'' : World} (a : Keep ι ι' h h' w w') (b : Keep ι' ι'' h' h'' w' w'') : Keep ι ι'' h h'' w w'' := {
  ext := a.ext.trans b.ext
  next := Nat.le_trans a.next b.next
  unreal c hc hn := by
    obtain ⟨h1, h2⟩ := a.unreal c hc hn
    obtain ⟨h3, h4⟩ := b.unreal c (Nat.lt_of_lt_of_le hc a.next) h1
    exact ⟨h3, h4.trans h2⟩
  own c p o h1 h2 h3 := by
    obtain ⟨c', p', o', h4, h5, hr', h6⟩ := b.own c p o h1 h2 (Nat.lt_of_lt_of_le h3 a.size)
    obtain ⟨c'', p'', o'', h7, h8, hr'', h9⟩ := a.own c' p' o' h4 h5 (by omega)
    exact ⟨c'', p'', o'', h7, h8, fun hr => hr'' (hr' hr), h9.trans h6⟩
  os := b.os.trans a.os
  tape := b.tape.trans a.tape
  output := b.output.trans a.output
  size := Nat.le_trans a.size b.size
  frame k hk ho := by
    rw [b.frame k (Nat.lt_of_lt_of_le hk a.size) ?_]
    · exact a.frame k hk ho
    · intro c p o h1 h2 hr he
      obtain ⟨c', p', o', h4, h5, hr', h6⟩ := a.own c p o h1 h2 (by omega)
      exact ho c' p' o' h4 h5 (hr' hr) (h6.trans he) }
end Go.Abs

/- The heap's laws: what reads, new blocks and writes do to how an abstract heap stands to a world. No condition. -/
namespace Go.Abs
theorem cell_of_heap {w w' : World} {k : Nat} (h : w'.heap[k]? = w.heap[k]?) (o : Nat) : w'.cell? ⟨k, o, none⟩ = w.cell? ⟨k, o, none⟩ := by simp [World.cell?, h]
theorem frozen_of_heap {w w' : World} {k : Nat} (h : w'.heap[k]? = w.heap[k]?) (o : Nat) : w'.frozen? ⟨k, o, none⟩ = w.frozen? ⟨k, o, none⟩ := by simp [World.frozen?, h]
theorem OR.move {ι ι' : Io} {p : Pl} {w w' : World} {o : AObj} (he : Ext ι ι') (hw : w'.heap[p.blk]? = w.heap[p.blk]?) (h : OR ι p w o) : OR ι' p w' o := by
  cases o with
  | cells n c =>
    obtain ⟨h1, h2, h3⟩ := h
    refine ⟨h1, fun i hi => ?_, fun i v hi hv => ?_⟩
    · rw [cell_of_heap hw, frozen_of_heap hw]; exact h2 i hi
    · obtain ⟨u, h4, h5⟩ := h3 i v hi hv
      exact ⟨u, by rw [cell_of_heap hw]; exact h4, h5.mono he⟩
  | map es cl =>
    obtain ⟨es', h1, h2, h3⟩ := h
    exact ⟨es', hw.trans h1, h2, fun i e e' h4 h5 => let ⟨a, b, c⟩ := h3 i e e' h4 h5; ⟨a.mono he, b.mono he, c⟩⟩
  | iter m since seen last =>
    obtain ⟨m', h1, h2, hb⟩ := h
    refine ⟨m', hw.trans h1, ?_, hb⟩
    cases m <;> cases m' <;> simp only [MR] at h2 ⊢
    obtain ⟨q, h3, h4⟩ := h2
    exact ⟨q, he _ _ h3, h4⟩
  | loop st pend n fr ps as body d =>
    obtain ⟨tmps, d', fn, h1, hn, h2, q, h3, h4⟩ := h
    exact ⟨tmps, d', fn, hw.trans h1, hn, h2.mono he, q, he _ _ h3, h4⟩
  | defr => exact hw.trans h
  | dead => trivial
  | ro c =>
    intro i v hv
    obtain ⟨u, h4, h5⟩ := h i v hv
    exact ⟨u, by rw [cell_of_heap hw]; exact h4, h5.mono he⟩
theorem heap_alloc_old (w : World) (O : Obj) {k : Nat} (h : k < w.heap.size) : (w.alloc O).heap[k]? = w.heap[k]? := by
  show (w.heap.push O)[k]? = _
  rw [Array.getElem?_push, if_neg (by omega)]
theorem heap_alloc_new (w : World) (O : Obj) : (w.alloc O).heap[w.heap.size]? = some O := by
  show (w.heap.push O)[w.heap.size]? = some O
  simp
def upd (ι : Io) (b : Nat) (p : Pl) : Io := fun c => if c = b then some p else ι c
theorem upd_same (ι : Io) (b : Nat) (p : Pl) : upd ι b p b = some p := by simp [upd]
theorem upd_other (ι : Io) {b c : Nat} (p : Pl) (h : c ≠ b) : upd ι b p c = ι c := by simp [upd, h]
theorem Ext.upd {ι : Io} {b : Nat} (p : Pl) (h : ι b = none) : Ext ι (upd ι b p) := fun c q hc => by
  by_cases e : c = b
  · subst e; rw [h] at hc; cases hc
  · rw [upd_other ι p e]; exact hc
theorem R.newU {ι : Io} {h : H} {w : World} (r : R ι h w) (o : AObj) (ho : o ≠ .dead) : R ι (h.new o) w := {
  obj b o' p h1 h2 := by
    rw [H.obj_new h b o ho] at h1
    split at h1
    · rename_i e; subst e; rw [r.fresh _ (Nat.le_refl _)] at h2; cases h2
    · exact r.obj b o' p h1 h2
  inj b b' o1 o2 p p' h1 h2 h3 h4 := by
    rw [H.obj_new h _ o ho] at h1 h2
    split at h1
    · rename_i e; subst e; rw [r.fresh _ (Nat.le_refl _)] at h3; cases h3
    · split at h2
      · rename_i e; subst e; rw [r.fresh _ (Nat.le_refl _)] at h4; cases h4
      · exact r.inj b b' o1 o2 p p' h1 h2 h3 h4
  fresh b hb := r.fresh b (by simp only [H.new] at hb; omega)
  bound := r.bound
  wf b hb := by
    simp only [H.new] at hb
    rw [H.obj_new h b o ho, if_neg (by omega)]; exact r.wf b (by omega) }
theorem R.realize {ι : Io} {h : H} {w : World} (r : R ι h w) {b : Nat} (hb : ι b = none) (hlt : b < h.next) (O : Obj) (ext : Nat)
    (hO : ∀ o, h.obj b = some o → OR (upd ι b ⟨w.heap.size, 0, ext⟩) ⟨w.heap.size, 0, ext⟩ (w.alloc O) o) : R (upd ι b ⟨w.heap.size, 0, ext⟩) h (w.alloc O) := {
  obj c o p h1 h2 := by
    by_cases e : c = b
    · subst e; rw [upd_same] at h2; cases h2; exact hO o h1
    · rw [upd_other ι _ e] at h2
      exact (r.obj c o p h1 h2).move (.upd _ hb) (heap_alloc_old w O (r.bound c p h2))
  inj c c' o o' p p' h1 h2 h3 h4 he := by
    by_cases e : c = b
    · by_cases e' : c' = b
      · rw [e, e']
      · subst e; rw [upd_same] at h3; rw [upd_other ι _ e'] at h4
        have := r.bound c' p' h4
        cases h3; simp at he; omega
    · by_cases e' : c' = b
      · subst e'; rw [upd_same] at h4; rw [upd_other ι _ e] at h3
        have := r.bound c p h3
        cases h4; simp at he; omega
      · rw [upd_other ι _ e] at h3; rw [upd_other ι _ e'] at h4
        exact r.inj c c' o o' p p' h1 h2 h3 h4 he
  fresh c hc := by
    rw [upd_other ι _ (by omega)]; exact r.fresh c hc
  bound c p h1 := by
    by_cases e : c = b
    · subst e; rw [upd_same] at h1; cases h1; simp
    · rw [upd_other ι _ e] at h1
      have := r.bound c p h1
      simp; omega
  wf := r.wf }
theorem R.new {ι : Io} {h : H} {w : World} (r : R ι h w) (o : AObj) (ho : o ≠ .dead) (O : Obj) (ext : Nat)
    (hO : OR (upd ι h.next ⟨w.heap.size, 0, ext⟩) ⟨w.heap.size, 0, ext⟩ (w.alloc O) o) : R (upd ι h.next ⟨w.heap.size, 0, ext⟩) (h.new o) (w.alloc O) := by
  refine (r.newU o ho).realize (r.fresh _ (Nat.le_refl _)) (by simp [H.new]) O ext fun o' h1 => ?_
  rw [H.obj_new h _ o ho, if_pos rfl] at h1; cases h1; exact hO
theorem Keep.new {ι : Io} {h : H} {w : World} (r : R ι h w) (o : AObj) (ho : o ≠ .dead) (O : Obj) (ext : Nat) :
    Keep ι (upd ι h.next ⟨w.heap.size, 0, ext⟩) h (h.new o) w (w.alloc O) := {
  ext := .upd _ (r.fresh _ (Nat.le_refl _))
  next := by simp [H.new]
  unreal b hb hn := ⟨by rw [upd_other ι _ (by omega)]; exact hn, by simp only [H.new, Tr.at_put]; rw [if_neg (by omega)]⟩
  own b p o' h1 h2 h3 := by
    by_cases e : b = h.next
    · subst e; rw [upd_same] at h1; cases h1; simp at h3
    · rw [upd_other ι _ e] at h1
      rw [H.obj_new h _ o ho, if_neg e] at h2
      exact ⟨b, p, o', h1, h2, id, rfl⟩
  os := rfl
  tape := rfl
  output := rfl
  size := by simp
  frame k hk _ := heap_alloc_old w O hk }
theorem Keep.newU {ι : Io} {h : H} {w : World} (r : R ι h w) (o : AObj) (ho : o ≠ .dead) : Keep ι ι h (h.new o) w w := {
  ext := .refl ι
  next := by simp [H.new]
  unreal b hb hn := ⟨hn, by simp only [H.new, Tr.at_put]; rw [if_neg (by omega)]⟩
  own b p o' h1 h2 h3 := by
    by_cases e : b = h.next
    · subst e; rw [r.fresh _ (Nat.le_refl _)] at h1; cases h1
    · rw [H.obj_new h _ o ho, if_neg e] at h2
      exact ⟨b, p, o', h1, h2, id, rfl⟩
  os := rfl
  tape := rfl
  output := rfl
  size := Nat.le_refl _
  frame k hk _ := rfl }
theorem Keep.realize {ι₀ ι : Io} {h₀ h : H} {w₀ w : World} (k : Keep ι₀ ι h₀ h w₀ w) {b : Nat} (hb : ι b = none) (hlt : h₀.next ≤ b) (O : Obj) (ext : Nat) :
    Keep ι₀ (upd ι b ⟨w.heap.size, 0, ext⟩) h₀ h w₀ (w.alloc O) := {
  ext := k.ext.trans (.upd _ hb)
  next := k.next
  unreal c hc hn := ⟨by rw [upd_other ι _ (by omega)]; exact (k.unreal c hc hn).1, (k.unreal c hc hn).2⟩
  own c p o h1 h2 h3 := by
    by_cases e : c = b
    · subst e; rw [upd_same] at h1; cases h1; have := k.size; simp at h3; omega
    · rw [upd_other ι _ e] at h1; exact k.own c p o h1 h2 h3
  os := k.os
  tape := k.tape
  output := k.output
  size := by have := k.size; simp; omega
  frame c hc ho := (heap_alloc_old w O (Nat.lt_of_lt_of_le hc k.size)).trans (k.frame c hc ho) }
theorem R.drew {ι : Io} {h : H} {w : World} (r : R ι h w) : R ι h w.drew := ⟨fun b o p h1 h2 => (r.obj b o p h1 h2).move (.refl ι) rfl, r.inj, r.fresh, r.bound, r.wf⟩
theorem Keep.drew {ι ι' : Io} {h h' : H} {w w' : World} (k : Keep ι ι' h h' w w') : Keep ι ι' h h' w w'.drew :=
  ⟨k.ext, k.next, k.unreal, k.own, k.os, k.tape, k.output, k.size, k.frame⟩
theorem R.cell {ι : Io} {h : H} {w : World} (r : R ι h w) {b n i : Nat} {c : Tr AV} {p : Pl} {v : AV} (hb : h.obj b = some (.cells n c)) (hp : ι b = some p)
    (hi : i < n) (hv : c.at i = some v) : ∃ u, w.cell? ⟨p.blk, p.base + i, none⟩ = some u ∧ VR ι v u :=
  (r.obj b _ p hb hp).2.2 i v hi hv
noncomputable def gets (c : Tr AV) (o : Nat) : Nat → Option (List AV)
  | 0 => some []
  | n + 1 => match c.at o with
    | none => none
    | some v => match gets c (o + 1) n with
      | none => none
      | some vs => some (v :: vs)
theorem gets_spec {c : Tr AV} : ∀ {n o : Nat} {vs : List AV}, gets c o n = some vs → vs.length = n ∧ ∀ i v, vs[i]? = some v → c.at (o + i) = some v
  | 0, o, vs, h => by cases h; exact ⟨rfl, fun i v hv => by simp at hv⟩
  | n + 1, o, vs, h => by
    simp only [gets] at h
    split at h
    · cases h
    · rename_i v hv
      split at h
      · cases h
      · rename_i vs' hvs
        cases h
        obtain ⟨h1, h2⟩ := gets_spec hvs
        refine ⟨by simp [h1], fun i u hu => ?_⟩
        cases i with
        | zero => simp at hu; subst hu; exact hv
        | succ i => simp at hu; have := h2 i u hu; rwa [show o + 1 + i = o + (i + 1) by omega] at this
theorem R.cellsAt {ι : Io} {h : H} {w : World} (r : R ι h w) {b n o m : Nat} {c : Tr AV} {p : Pl} {vs : List AV} (hb : h.obj b = some (.cells n c)) (hp : ι b = some p)
    (ho : o + m ≤ n) (hv : gets c o m = some vs) : ∃ us : List Value, VRs ι vs us ∧ us.length = m ∧ ∀ i u, us[i]? = some u → w.cell? ⟨p.blk, p.base + o + i, none⟩ = some u := by
  obtain ⟨h1, h2⟩ := gets_spec hv
  let us : List Value := (List.range m).map fun i => (w.cell? ⟨p.blk, p.base + o + i, none⟩).getD undef
  have key : ∀ i, i < m → ∃ u v, us[i]? = some u ∧ vs[i]? = some v ∧ w.cell? ⟨p.blk, p.base + o + i, none⟩ = some u ∧ VR ι v u := by
    intro i hi
    have hvi : vs[i]? = some (vs[i]'(h1 ▸ hi)) := by simp [h1, hi]
    obtain ⟨u, h3, h4⟩ := r.cell hb hp (i := o + i) (by omega) (h2 i _ hvi)
    rw [← Nat.add_assoc] at h3
    exact ⟨u, _, by simp [us, hi, h3], hvi, h3, h4⟩
  refine ⟨us, VRs.of_get (by simp [us, h1]) fun i a ha => ?_, by simp [us], fun i u hu => ?_⟩
  · have hi : i < m := h1 ▸ (List.getElem?_eq_some_iff.1 ha).1
    obtain ⟨u, v, h5, h6, _, h8⟩ := key i hi
    rw [ha] at h6; cases h6
    exact ⟨u, h5, h8⟩
  · have hi : i < m := by have := (List.getElem?_eq_some_iff.1 hu).1; simpa [us] using this
    obtain ⟨u', v, h5, _, h7, _⟩ := key i hi
    rw [hu] at h5; cases h5; exact h7
theorem R.cellsAtRo {ι : Io} {h : H} {w : World} (r : R ι h w) {b o m : Nat} {c : Tr AV} {p : Pl} {vs : List AV} (hb : h.obj b = some (.ro c)) (hp : ι b = some p)
    (hv : gets c o m = some vs) : ∃ us : List Value, VRs ι vs us ∧ us.length = m ∧ ∀ (i : Nat) u, us[i]? = some u → w.cell? ⟨p.blk, p.base + o + i, none⟩ = some u := by
  obtain ⟨h1, h2⟩ := gets_spec hv
  let us : List Value := (List.range m).map fun i => (w.cell? ⟨p.blk, p.base + o + i, none⟩).getD undef
  have key : ∀ i, i < m → ∃ u v, us[i]? = some u ∧ vs[i]? = some v ∧ w.cell? ⟨p.blk, p.base + o + i, none⟩ = some u ∧ VR ι v u := by
    intro i hi
    have hvi : vs[i]? = some (vs[i]'(h1 ▸ hi)) := by simp [h1, hi]
    obtain ⟨u, h3, h4⟩ := r.obj b _ p hb hp (o + i) _ (h2 i _ hvi)
    rw [← Nat.add_assoc] at h3
    exact ⟨u, _, by simp [us, hi, h3], hvi, h3, h4⟩
  refine ⟨us, VRs.of_get (by simp [us, h1]) fun i a ha => ?_, by simp [us], fun i u hu => ?_⟩
  · have hi : i < m := h1 ▸ (List.getElem?_eq_some_iff.1 ha).1
    obtain ⟨u, v, h5, h6, _, h8⟩ := key i hi
    rw [ha] at h6; cases h6
    exact ⟨u, h5, h8⟩
  · have hi : i < m := by have := (List.getElem?_eq_some_iff.1 hu).1; simpa [us] using this
    obtain ⟨u', v, h5, _, h7, _⟩ := key i hi
    rw [hu] at h5; cases h5; exact h7
noncomputable def puts (c : Tr AV) (o : Nat) : List AV → Tr AV
  | [] => c
  | v :: vs => puts (c.put o v) (o + 1) vs
theorem at_puts : ∀ (vs : List AV) (c : Tr AV) (o i : Nat), (puts c o vs).at i = if o ≤ i ∧ i < o + vs.length then vs[i - o]? else c.at i
  | [], c, o, i => by simp only [puts, List.length_nil, Nat.add_zero]; rw [if_neg (by omega)]
  | v :: vs, c, o, i => by
    simp only [puts, List.length_cons]
    rw [at_puts vs (c.put o v) (o + 1) i, Tr.at_put]
    by_cases h1 : o + 1 ≤ i ∧ i < o + 1 + vs.length
    · rw [if_pos h1, if_pos (by omega), show i - o = (i - (o + 1)) + 1 by omega, List.getElem?_cons_succ]
    · rw [if_neg h1]
      by_cases h2 : i = o
      · subst h2; rw [if_pos rfl, if_pos (by omega)]; simp
      · rw [if_neg h2, if_neg (by omega)]
theorem setCells_heap (_w : World) (b : Nat) : ∀ (vs : List Value) (o : Nat) (w : World) (k : Nat), k ≠ b → (w.setCells b o vs).heap[k]? = w.heap[k]?
  | [], _, _, _, _ => rfl
  | v :: vs, o, w, k, hk => by
    simp only [World.setCells]
    rw [setCells_heap w b vs (o + 1) _ k hk]
    simp only [World.setCell, Array.getElem?_modify]
    rw [if_neg (by omega)]
theorem setCells_size (b : Nat) : ∀ (vs : List Value) (o : Nat) (w : World), (w.setCells b o vs).heap.size = w.heap.size
  | [], _, _ => rfl
  | v :: vs, o, w => by simp only [World.setCells]; rw [setCells_size b vs (o + 1)]; simp
theorem setCells_rest (b : Nat) : ∀ (vs : List Value) (o : Nat) (w : World), (w.setCells b o vs).os = w.os ∧ (w.setCells b o vs).tape = w.tape ∧ (w.setCells b o vs).output = w.output
  | [], _, _ => ⟨rfl, rfl, rfl⟩
  | v :: vs, o, w => by simp only [World.setCells]; exact setCells_rest b vs (o + 1) (w.setCell ⟨b, o, none⟩ v)
theorem cell_setCells_some (b : Nat) (vs : List Value) (o : Nat) (w : World) (i : Nat) (h : (w.cell? ⟨b, i, none⟩).isSome = true) : ((w.setCells b o vs).cell? ⟨b, i, none⟩).isSome = true := by
  induction vs generalizing o w with
  | nil => exact h
  | cons v vs ih =>
    simp only [World.setCells]
    apply ih
    by_cases e : o = i
    · subst e
      obtain ⟨u, hu⟩ := Option.isSome_iff_exists.1 h
      rw [World.cell?_setCell_same w ⟨b, o, none⟩ v hu]; rfl
    · rw [World.cell?_setCell_other _ _ _ _ (by intro h'; cases h'; exact e rfl)]; exact h
theorem R.setCells {ι : Io} {h : H} {w : World} (r : R ι h w) {b n o n' : Nat} {c : Tr AV} {p : Pl} {vs : List AV} {us : List Value} (hb : h.obj b = some (.cells n c)) (hp : ι b = some p)
    (hvs : VRs ι vs us) (hn : o ≤ n) (hn' : n' ≤ max n (o + vs.length)) (hext : o + vs.length ≤ p.ext) : R ι (h.set b (.cells n' (puts c o vs))) (w.setCells p.blk (p.base + o) us) := {
  obj d od q h1 h2 := by
    rw [H.obj_set _ _ _ _ (by simp)] at h1
    split at h1
    · rename_i e
      subst e; cases h1; rw [hp] at h2; cases h2
      obtain ⟨g1, g2, g3⟩ := r.obj d _ p hb hp
      refine ⟨by omega, fun i hi => ⟨cell_setCells_some _ _ _ _ _ (g2 i hi).1, by rw [World.frozen?_setCells]; exact (g2 i hi).2⟩, fun i v hi hv => ?_⟩
      rw [at_puts] at hv
      split at hv
      · rename_i hin
        obtain ⟨u, hu, hvu⟩ := hvs.get hv
        refine ⟨u, ?_, hvu⟩
        have hlt : i - o < us.length := (List.getElem?_eq_some_iff.1 hu).1
        have hs : ∀ j, j < us.length → (w.cell? ⟨p.blk, p.base + o + j, none⟩).isSome = true := fun j hj => by
          have := (g2 (o + j) (by rw [hvs.len] at hext; omega)).1
          rwa [← Nat.add_assoc] at this
        have := World.cell?_setCells_in p.blk us (p.base + o) w hs (i - o) hlt
        rw [show p.base + o + (i - o) = p.base + i by omega] at this
        rw [this, ← hu]; simp [hlt]
      · rename_i hout
        have hin : i < n := by rcases Nat.lt_or_ge i n with h | h
                               · exact h
                               · rw [Nat.max_def] at hn'; split at hn' <;> omega
        obtain ⟨u, h4, h5⟩ := g3 i v hin hv
        refine ⟨u, ?_, h5⟩
        rw [World.cell?_setCells_out]
        · exact h4
        · intro _ _; simp; rw [← hvs.len]; omega
    · rename_i e
      have hne : q.blk ≠ p.blk := fun he => e (r.inj d b _ _ q p h1 hb h2 hp he)
      exact (r.obj d od q h1 h2).move (.refl ι) (setCells_heap w _ _ _ _ _ hne)
  inj d d' od od' q q' h1 h2 h3 h4 he := by
    rw [H.obj_set _ _ _ _ (by simp)] at h1 h2
    by_cases e : d = b
    · by_cases e' : d' = b
      · rw [e, e']
      · rw [if_neg e'] at h2; subst e; exact r.inj d d' _ od' q q' hb h2 h3 h4 he
    · rw [if_neg e] at h1
      by_cases e' : d' = b
      · subst e'; exact r.inj d d' od _ q q' h1 hb h3 h4 he
      · rw [if_neg e'] at h2; exact r.inj d d' od od' q q' h1 h2 h3 h4 he
  fresh := r.fresh
  bound d q h1 := by rw [setCells_size]; exact r.bound d q h1
  wf c hc := by
    rw [H.obj_set _ _ _ _ (by simp), if_neg (fun e => by subst e; rw [r.fresh _ hc] at hp; cases hp)]; exact r.wf c hc }
theorem Keep.setCells {ι : Io} {h : H} {w : World} (_r : R ι h w) {b n n' : Nat} {c c' : Tr AV} {p : Pl} (hb : h.obj b = some (.cells n c)) (hp : ι b = some p) (o : Nat) (us : List Value) :
    Keep ι ι h (h.set b (.cells n' c')) w (w.setCells p.blk o us) := {
  ext := .refl ι
  next := Nat.le_refl _
  unreal d hd hn := ⟨hn, by simp only [H.set, Tr.at_put]; rw [if_neg (fun e => by subst e; rw [hp] at hn; cases hn)]⟩
  own d q od h1 h2 h3 := by
    rw [H.obj_set _ _ _ _ (by simp)] at h2
    by_cases e : d = b
    · subst e; exact ⟨d, q, _, h1, hb, fun _ => by first | rfl | assumption, rfl⟩
    · rw [if_neg e] at h2; exact ⟨d, q, od, h1, h2, id, rfl⟩
  os := (setCells_rest _ _ _ _).1
  tape := (setCells_rest _ _ _ _).2.1
  output := (setCells_rest _ _ _ _).2.2
  size := by rw [setCells_size]; exact Nat.le_refl _
  frame k hk ho := setCells_heap w _ _ _ _ _ (fun e => ho b p _ hp hb rfl e.symm) }
theorem R.setObj {ι : Io} {h : H} {w : World} (r : R ι h w) {b : Nat} {o o' : AObj} {p : Pl} {O : Obj} (hb : h.obj b = some o) (hp : ι b = some p) (ho : o' ≠ .dead)
    (hO : ∀ w' : World, w'.heap[p.blk]? = some O → OR ι p w' o') : R ι (h.set b o') (w.putObj p.blk O) := {
  obj d od q h1 h2 := by
    rw [H.obj_set _ _ _ _ ho] at h1
    split at h1
    · rename_i e
      subst e; cases h1; rw [hp] at h2; cases h2
      exact hO _ (World.putObj_heap_same (r.bound _ _ hp))
    · rename_i e
      have hne : q.blk ≠ p.blk := fun he => e (r.inj d b _ _ q p h1 hb h2 hp he)
      exact (r.obj d od q h1 h2).move (.refl ι) (World.putObj_heap_other hne)
  inj d d' od od' q q' h1 h2 h3 h4 he := by
    rw [H.obj_set _ _ _ _ ho] at h1 h2
    by_cases e : d = b
    · by_cases e' : d' = b
      · rw [e, e']
      · rw [if_neg e'] at h2; subst e; exact r.inj d d' _ od' q q' hb h2 h3 h4 he
    · rw [if_neg e] at h1
      by_cases e' : d' = b
      · subst e'; exact r.inj d d' od _ q q' h1 hb h3 h4 he
      · rw [if_neg e'] at h2; exact r.inj d d' od od' q q' h1 h2 h3 h4 he
  fresh := r.fresh
  bound d q h1 := by rw [World.putObj_size]; exact r.bound d q h1
  wf c hc := by
    rw [H.obj_set _ _ _ _ ho, if_neg (fun e => by subst e; rw [r.fresh _ hc] at hp; cases hp)]; exact r.wf c hc }
theorem Keep.setObj {ι : Io} {h : H} {w : World} (_r : R ι h w) {b : Nat} {o o' : AObj} {p : Pl} {O : Obj} (hb : h.obj b = some o) (hp : ι b = some p) (ho : o' ≠ .dead) (hrw : o.rw = true := by rfl) :
    Keep ι ι h (h.set b o') w (w.putObj p.blk O) := {
  ext := .refl ι
  next := Nat.le_refl _
  unreal d hd hn := ⟨hn, by simp only [H.set, Tr.at_put]; rw [if_neg (fun e => by subst e; rw [hp] at hn; cases hn)]⟩
  own d q od h1 h2 h3 := by
    rw [H.obj_set _ _ _ _ ho] at h2
    by_cases e : d = b
    · subst e; exact ⟨d, q, _, h1, hb, fun _ => by first | rfl | assumption, rfl⟩
    · rw [if_neg e] at h2; exact ⟨d, q, od, h1, h2, id, rfl⟩
  os := rfl
  tape := rfl
  output := rfl
  size := by rw [World.putObj_size]; exact Nat.le_refl _
  frame k hk ho := World.putObj_heap_other (fun e => ho b p _ hp hb hrw e.symm) }
theorem R.kill {ι : Io} {h : H} {w : World} (r : R ι h w) (b : Nat) : R ι (h.set b .dead) w := {
  obj d od q h1 h2 := by
    rw [H.obj_kill] at h1
    split at h1
    · cases h1
    · exact r.obj d od q h1 h2
  inj d d' od od' q q' h1 h2 := by
    rw [H.obj_kill] at h1 h2
    split at h1
    · cases h1
    · split at h2
      · cases h2
      · exact r.inj d d' od od' q q' h1 h2
  fresh := r.fresh
  bound := r.bound
  wf c hc := by
    rw [H.obj_kill]; split
    · rfl
    · exact r.wf c hc }
theorem Keep.kill {ι : Io} {h : H} {w : World} (_r : R ι h w) {b : Nat} {p : Pl} (hp : ι b = some p) : Keep ι ι h (h.set b .dead) w w := {
  ext := .refl ι
  next := Nat.le_refl _
  unreal d hd hn := ⟨hn, by simp only [H.set, Tr.at_put]; rw [if_neg (fun e => by subst e; rw [hp] at hn; cases hn)]⟩
  own d q od h1 h2 h3 := by
    rw [H.obj_kill] at h2
    split at h2
    · cases h2
    · exact ⟨d, q, od, h1, h2, id, rfl⟩
  os := rfl
  tape := rfl
  output := rfl
  size := Nat.le_refl _
  frame k hk ho := rfl }
end Go.Abs
