/- Frames, read and written fast; forcing with a fixed end. No condition. -/
import Derived.Room.MakeNoZero
import Derived.Test.YtkihpcjfhilgcaaGreatZ07
import Derived.Test.YtkihpcjfhilgcaaGreatZ08
namespace Go.Abs
noncomputable def putDF (d : Option Tmp) : Fm → AV → (Fm → RF) → RF :=
  Option.rec (motive := fun _ => Fm → AV → (Fm → RF) → RF) (fun F _ k => k F) (fun t F v k => (accF t).s F v k) d
theorem putDF_eq (d : Option Tmp) (F : Fm) (v : AV) (k : Fm → RF) : putDF d F v k = k (putD F d v) := by
  cases d with
  | none => rfl
  | some t => exact accF_s t F v k
noncomputable def forceNF (n : Nat) (k : Nat → RF) : RF := Nat.rec (motive := fun _ => RF) (k 0) (fun m _ => k (Nat.succ m)) n
theorem forceNF_eq (n : Nat) (k : Nat → RF) : forceNF n k = k n := by cases n <;> rfl
noncomputable def forceVF (v : AV) : (AV → RF) → RF :=
  AV.rec (motive_1 := fun _ => (AV → RF) → RF) (motive_2 := fun _ => Unit)
    (fun b k => Bool.rec (motive := fun _ => RF) (k (.bool false)) (k (.bool true)) b)
    (fun t n k => Int.rec (motive := fun _ => RF) (fun m => forceNF m fun m => k (.int t (.ofNat m))) (fun m => forceNF m fun m => k (.int t (.negSucc m))) n)
    (fun s k => k (.str s))
    (fun b o k => forceNF b fun b => forceNF o fun o => k (.ptr b o))
    (fun k => k .pnil)
    (fun b o l c s e k => forceV (.slice b o l c s e) k)
    (fun k => k .snil) (fun r k => k (.map r)) (fun k => k .mnil)
    (fun f a c _ _ k => forceV (.func f a c) k) (fun k => k .fnil) (fun t v _ k => forceV (.iface t v) k) (fun k => k .inil)
    (fun cs _ k => forceV (.agg cs) k) (fun cs _ k => forceV (.tup cs) k) () (fun _ _ _ _ => ()) v
theorem forceVF_eq (v : AV) (k : AV → RF) : forceVF v k = k v := by
  cases v with
  | bool b => cases b <;> rfl
  | int t n => cases n with
    | ofNat m => exact forceNF_eq m fun m => k (.int t (.ofNat m))
    | negSucc m => exact forceNF_eq m fun m => k (.int t (.negSucc m))
  | ptr b o =>
    show forceNF b (fun b => forceNF o fun o => k (.ptr b o)) = _
    rw [forceNF_eq, forceNF_eq]
  | slice b o l c s e => exact forceV_eq (AV.slice b o l c s e) k
  | func f a c => exact forceV_eq (AV.func f a c) k
  | iface t v => exact forceV_eq (AV.iface t v) k
  | agg cs => exact forceV_eq (AV.agg cs) k
  | tup cs => exact forceV_eq (AV.tup cs) k
  | _ => rfl
end Go.Abs

/- Taking values apart, fast. No condition. -/
namespace Go.Abs
variable {γ : Type}
noncomputable def bindO {α β : Type} (o : Option α) (k : α → Option β) : Option β := Option.rec (motive := fun _ => Option β) none k o
theorem bindO_none {α β : Type} (k : α → Option β) : bindO none k = none := rfl
theorem bindO_some {α β : Type} (a : α) (k : α → Option β) : bindO (some a) k = k a := rfl
noncomputable def evF (x : Operand) : Fm → Option AV :=
  Operand.rec (motive := fun _ => Fm → Option AV) (fun t F => (accF t).g F) (fun v _ => ofV v) (fun _ _ => none) (fun f _ => some (.func (.func f) [] [])) x
theorem evF_eq (x : Operand) (F : Fm) : evF x F = ev F x := by
  cases x with
  | tmp t => exact accF_g t F
  | _ => rfl
noncomputable def onInt (v : AV) : (IntKind → Int → γ) → γ → γ :=
  AV.rec (motive_1 := fun _ => (IntKind → Int → γ) → γ → γ) (motive_2 := fun _ => Unit)
    (fun _ _ d => d) (fun k n f _ => f k n) (fun _ _ d => d) (fun _ _ _ d => d) (fun _ d => d) (fun _ _ _ _ _ _ _ d => d) (fun _ d => d) (fun _ _ d => d) (fun _ d => d)
    (fun _ _ _ _ _ _ d => d) (fun _ d => d) (fun _ _ _ _ d => d) (fun _ d => d) (fun _ _ _ d => d) (fun _ _ _ d => d) () (fun _ _ _ _ => ()) v
noncomputable def onBool (v : AV) : (Bool → γ) → γ → γ :=
  AV.rec (motive_1 := fun _ => (Bool → γ) → γ → γ) (motive_2 := fun _ => Unit)
    (fun b f _ => f b) (fun _ _ _ d => d) (fun _ _ d => d) (fun _ _ _ d => d) (fun _ d => d) (fun _ _ _ _ _ _ _ d => d) (fun _ d => d) (fun _ _ d => d) (fun _ d => d)
    (fun _ _ _ _ _ _ d => d) (fun _ d => d) (fun _ _ _ _ d => d) (fun _ d => d) (fun _ _ _ d => d) (fun _ _ _ d => d) () (fun _ _ _ _ => ()) v
noncomputable def onPtr (v : AV) : (Nat → Nat → γ) → γ → γ :=
  AV.rec (motive_1 := fun _ => (Nat → Nat → γ) → γ → γ) (motive_2 := fun _ => Unit)
    (fun _ _ d => d) (fun _ _ _ d => d) (fun _ _ d => d) (fun b o f _ => f b o) (fun _ d => d) (fun _ _ _ _ _ _ _ d => d) (fun _ d => d) (fun _ _ d => d) (fun _ d => d)
    (fun _ _ _ _ _ _ d => d) (fun _ d => d) (fun _ _ _ _ d => d) (fun _ d => d) (fun _ _ _ d => d) (fun _ _ _ d => d) () (fun _ _ _ _ => ()) v
noncomputable def onTup (v : AV) : (List AV → γ) → γ → γ :=
  AV.rec (motive_1 := fun _ => (List AV → γ) → γ → γ) (motive_2 := fun _ => Unit)
    (fun _ _ d => d) (fun _ _ _ d => d) (fun _ _ d => d) (fun _ _ _ d => d) (fun _ d => d) (fun _ _ _ _ _ _ _ d => d) (fun _ d => d) (fun _ _ d => d) (fun _ d => d)
    (fun _ _ _ _ _ _ d => d) (fun _ d => d) (fun _ _ _ _ d => d) (fun _ d => d) (fun _ _ _ d => d) (fun vs _ f _ => f vs) () (fun _ _ _ _ => ()) v
noncomputable def onAgg (v : AV) : (List AV → γ) → γ → γ :=
  AV.rec (motive_1 := fun _ => (List AV → γ) → γ → γ) (motive_2 := fun _ => Unit)
    (fun _ _ d => d) (fun _ _ _ d => d) (fun _ _ d => d) (fun _ _ _ d => d) (fun _ d => d) (fun _ _ _ _ _ _ _ d => d) (fun _ d => d) (fun _ _ d => d) (fun _ d => d)
    (fun _ _ _ _ _ _ d => d) (fun _ d => d) (fun _ _ _ _ d => d) (fun _ d => d) (fun vs _ f _ => f vs) (fun _ _ _ d => d) () (fun _ _ _ _ => ()) v
noncomputable def onSlice (v : AV) : (Nat → Nat → Nat → Nat → Nat → Bool → γ) → γ → γ :=
  AV.rec (motive_1 := fun _ => (Nat → Nat → Nat → Nat → Nat → Bool → γ) → γ → γ) (motive_2 := fun _ => Unit)
    (fun _ _ d => d) (fun _ _ _ d => d) (fun _ _ d => d) (fun _ _ _ d => d) (fun _ d => d) (fun b o l c s e f _ => f b o l c s e) (fun _ d => d) (fun _ _ d => d) (fun _ d => d)
    (fun _ _ _ _ _ _ d => d) (fun _ d => d) (fun _ _ _ _ d => d) (fun _ d => d) (fun _ _ _ d => d) (fun _ _ _ d => d) () (fun _ _ _ _ => ()) v
noncomputable def onNat (v : AV) (f : IntKind → Nat → γ) (d : γ) : γ :=
  onInt v (fun k n => Int.rec (motive := fun _ => (IntKind → Nat → γ) → γ → γ) (fun m f _ => f k m) (fun _ _ d => d) n f d) d
theorem onBool_eq (v : AV) (f : Bool → γ) (d : γ) : onBool v f d = match v with | .bool b => f b | _ => d := by cases v <;> rfl
theorem onPtr_eq (v : AV) (f : Nat → Nat → γ) (d : γ) : onPtr v f d = match v with | .ptr b o => f b o | _ => d := by cases v <;> rfl
theorem onTup_eq (v : AV) (f : List AV → γ) (d : γ) : onTup v f d = match v with | .tup b => f b | _ => d := by cases v <;> rfl
theorem onNat_eq (v : AV) (f : IntKind → Nat → γ) (d : γ) : onNat v f d = match v with | .int k (.ofNat m) => f k m | _ => d := by
  cases v <;> try rfl
  rename_i k n; cases n <;> rfl
noncomputable def onNatA (v : AV) : (IntKind → Nat → Option AV) → Option AV → Option AV :=
  AV.rec (motive_1 := fun _ => (IntKind → Nat → Option AV) → Option AV → Option AV) (motive_2 := fun _ => Unit)
    (fun _ _ d => d) (fun k n f d => Int.rec (motive := fun _ => Option AV) (fun m => f k m) (fun _ => d) n) (fun _ _ d => d) (fun _ _ _ d => d) (fun _ d => d) (fun _ _ _ _ _ _ _ d => d) (fun _ d => d) (fun _ _ d => d) (fun _ d => d)
    (fun _ _ _ _ _ _ d => d) (fun _ d => d) (fun _ _ _ _ d => d) (fun _ d => d) (fun _ _ _ d => d) (fun _ _ _ d => d) () (fun _ _ _ _ => ()) v
theorem onNatA_eq (v : AV) (f : IntKind → Nat → Option AV) (d : Option AV) : onNatA v f d = match v with | .int k (.ofNat m) => f k m | _ => d := by
  cases v <;> try rfl
  rename_i k n; cases n <;> rfl
noncomputable def binF (P : Program) (op : BinOp) (t : TypeId) (x y : Operand) (a b : AV) : Option AV :=
  onNatA a (fun k m => onNatA b (fun l n => Option.rec (motive := fun _ => (Unit → Option AV) → Option AV) (fun d => d ()) (fun r _ => some r) (intN op k l m n) fun _ => binA P op t x y a b) (binA P op t x y a b)) (binA P op t x y a b)
theorem binF_eq (P : Program) (op : BinOp) (t : TypeId) (x y : Operand) (a b : AV) : binF P op t x y a b = binA P op t x y a b := by
  unfold binF
  rw [onNatA_eq]
  split
  · rename_i k m
    rw [onNatA_eq]
    split
    · rename_i l n
      cases h : intN op k l m n with
      | none => rfl
      | some r =>
        show some r = _
        have := intN_sound (_P := P) (t := t) h
        simp only [binA, scal]
        rw [this]
    · rfl
  · rfl
noncomputable def convF (P : Program) (src dst : TypeId) (a : AV) : Option AV :=
  onNatA a (fun _ m => match P.underlying src, P.underlying dst with
    | some _, some (.int k) => some (.int k (wrapN k m))
    | _, _ => convA P src dst a) (convA P src dst a)
theorem convF_eq (P : Program) (src dst : TypeId) (a : AV) : convF P src dst a = convA P src dst a := by
  unfold convF
  rw [onNatA_eq]
  split
  · rename_i k m
    split
    · rename_i s k' h1 h2
      simp only [convA, h1, h2, wrapN_eq]
    · rfl
  · rfl
noncomputable def valF (o : Option AV) : Option PR := Option.rec (motive := fun _ => Option PR) none (fun v => some (.val v)) o
theorem valF_eq (o : Option AV) : valF o = o.map PR.val := by cases o <;> rfl
noncomputable def pickF (_P : Program) (F : Fm) (c a b : Operand) : Option PR :=
  bindO (evF c F) fun v => onBool v (fun t => Bool.rec (motive := fun _ => Option PR) (valF (evF b F)) (valF (evF a F)) t) none
theorem pickF_eq (P : Program) (F : Fm) (c a b : Operand) : pickF P F c a b = pop P F (.pick c a b) := by
  unfold pickF
  simp only [pop, evF_eq, valF_eq]
  cases h : ev F c with
  | none => rfl
  | some v =>
    rw [bindO_some, onBool_eq]
    cases v <;> try rfl
    rename_i t; cases t <;> rfl
noncomputable def bin2F (P : Program) (F : Fm) (op : BinOp) (t : TypeId) (x y : Operand) : Option PR :=
  Option.rec (motive := fun _ => Option PR) none (fun a => Option.rec (motive := fun _ => Option PR) none (fun b => valF (binF P op t x y a b)) (evF y F)) (evF x F)
theorem bin2F_eq (P : Program) (F : Fm) (op : BinOp) (t : TypeId) (x y : Operand) (yt : TypeId) : bin2F P F op t x y = pop P F (.binOp op t x y yt) := by
  unfold bin2F
  simp only [pop, evF_eq, valF_eq, binF_eq]
  cases h : ev F x with
  | none => rfl
  | some a => cases h2 : ev F y <;> rfl
noncomputable def conv2F (P : Program) (F : Fm) (src dst : TypeId) (x : Operand) : Option PR := Option.rec (motive := fun _ => Option PR) none (fun a => valF (convF P src dst a)) (evF x F)
theorem conv2F_eq (P : Program) (F : Fm) (src dst : TypeId) (x : Operand) : conv2F P F src dst x = pop P F (.convert src dst x) := by
  unfold conv2F
  simp only [pop, evF_eq, valF_eq, convF_eq]
  cases h : ev F x <;> rfl
noncomputable def extF (F : Fm) (x : Operand) (i : Nat) : Option PR := bindO (evF x F) fun v => onTup v (fun vs => valF (vs[i]?)) none
theorem extF_eq (P : Program) (F : Fm) (x : Operand) (i : Nat) : extF F x i = pop P F (.extract x i) := by
  unfold extF
  simp only [pop, evF_eq, valF_eq]
  cases h : ev F x with
  | none => rfl
  | some v => rw [bindO_some, onTup_eq]; cases v <;> rfl
def fieldOff (P : Program) (t : TypeId) (f : Nat) : Option Nat :=
  match P.underlying t with
  | some (.struct fs) => match fs[f]? with
    | some fl => match szo P fl.type with
      | some (_ + 1) => some fl.offset
      | _ => none
    | none => none
  | _ => none
noncomputable def fadF (P : Program) (F : Fm) (t : TypeId) (x : Operand) (f : Nat) : Option PR :=
  bindO (fieldOff P t f) fun off => bindO (evF x F) fun v => onPtr v (fun b o => some (.val (.ptr b (Nat.add o off)))) none
theorem fadF_eq (P : Program) (F : Fm) (t : TypeId) (x : Operand) (f : Nat) : fadF P F t x f = pop P F (.fieldAddr t x f) := by
  unfold fadF fieldOff
  simp only [pop, evF_eq]
  cases hx : ev F x with
  | none =>
    have : ∀ o : Option Nat, (bindO o fun off => bindO (none : Option AV) fun v => onPtr v (fun b o => some (PR.val (.ptr b (Nat.add o off)))) none) = none := fun o => by cases o <;> rfl
    rw [this]
    cases P.underlying t with
    | none => rfl
    | some d => cases d <;> rfl
  | some v =>
    cases hu : P.underlying t with
    | none => rfl
    | some d =>
      cases d <;> try rfl
      rename_i fs
      simp only []
      cases hf : fs[f]? with
      | none => rw [bindO_none]; cases v <;> try rfl
                simp only [hf]
      | some fl =>
        simp only []
        cases hs : szo P fl.type with
        | none => rw [bindO_none]; cases v <;> try rfl
                  simp only [hf, hs]
        | some m =>
          cases m with
          | zero => rw [bindO_none]; cases v <;> try rfl
                    simp only [hf, hs]
          | succ m => rw [bindO_some, bindO_some, onPtr_eq]; cases v <;> try rfl
                      simp only [hf, hs]; rfl
end Go.Abs

/- Loads and stores, fast. No condition. -/
namespace Go.Abs
noncomputable def onCellsE (o : AObj) : (Nat → Tr AV → RE) → RE → RE :=
  AObj.rec (motive := fun _ => (Nat → Tr AV → RE) → RE → RE) (fun n c f _ => f n c) (fun _ _ _ d => d) (fun _ _ _ _ _ d => d) (fun _ _ _ _ _ _ _ _ _ d => d) (fun _ d => d) (fun _ d => d) (fun _ _ d => d) o
noncomputable def onCellsV (o : AObj) : (Nat → Tr AV → Option AV) → (Tr AV → Option AV) → Option AV :=
  AObj.rec (motive := fun _ => (Nat → Tr AV → Option AV) → (Tr AV → Option AV) → Option AV) (fun n c f _ => f n c) (fun _ _ _ _ => none) (fun _ _ _ _ _ _ => none) (fun _ _ _ _ _ _ _ _ _ _ => none) (fun _ _ => none) (fun _ _ => none) (fun c _ g => g c) o
theorem onCellsE_eq (h : H) (b : Nat) (f : Nat → Tr AV → RE) (d : RE) : (Option.rec (motive := fun _ => RE) d (fun o => onCellsE o f d) (h.t.at b)) = match h.obj b with | some (.cells n c) => f n c | _ => d := by
  unfold H.obj
  cases h.t.at b with
  | none => rfl
  | some o => cases o <;> rfl
theorem onCellsV_eq (h : H) (b : Nat) (f : Nat → Tr AV → Option AV) (g : Tr AV → Option AV) : (Option.rec (motive := fun _ => Option AV) none (fun o => onCellsV o f g) (h.t.at b)) = match h.obj b with | some (.cells n c) => f n c | some (.ro c) => g c | _ => none := by
  unfold H.obj
  cases h.t.at b with
  | none => rfl
  | some o => cases o <;> rfl
def isFalse (o : Option Bool) : Bool :=
  match o with
  | some false => true
  | _ => false
noncomputable def loadF (P : Program) (t : TypeId) (h : H) (b o : Nat) : Option AV :=
  Bool.rec (motive := fun _ => Option AV) (loadA P h t b o)
    (Option.rec (motive := fun _ => Option AV) none (fun ob => onCellsV ob (fun n c => Bool.rec (motive := fun _ => Option AV) none ((accC o).g c) (Nat.ble (Nat.succ o) n)) (fun c => (accC o).g c)) ((accH b).g h.t)) (isFalse (isAg P t))
theorem loadF_eq (P : Program) (t : TypeId) (h : H) (b o : Nat) : loadF P t h b o = loadA P h t b o := by
  unfold loadF
  cases hf : isFalse (isAg P t) with
  | false => rfl
  | true =>
    have hag : isAg P t = some false := by
      unfold isFalse at hf
      split at hf
      · assumption
      · cases hf
    show Option.rec (motive := fun _ => Option AV) none (fun ob => onCellsV ob _ _) ((accH b).g h.t) = _
    rw [accH_g, onCellsV_eq]
    unfold loadA
    split
    · rename_i n c hb
      simp only [hb, hag]
      rw [accC_g]
      show Bool.rec (motive := fun _ => Option AV) none (c.at o) (Nat.blt o n) = _
      cases Nat.blt o n <;> rfl
    · rename_i c hb
      simp only [hb, hag]
      exact accC_g _ _
    · rename_i hno hno2
      split
      · rename_i n c hb; exact (hno _ _ hb).elim
      · rename_i c hb; exact (hno2 _ hb).elim
      · rfl
noncomputable def loadOp (t : TypeId) (x : Operand) (P : Program) (F : Fm) (h : H) : Option AV :=
  Option.rec (motive := fun _ => Option AV) none (fun v => AV.rec (motive_1 := fun _ => (Nat → Nat → Option AV) → Option AV) (motive_2 := fun _ => Unit)
    (fun _ _ => none) (fun _ _ _ => none) (fun _ _ => none) (fun b o f => f b o) (fun _ => none) (fun _ _ _ _ _ _ _ => none) (fun _ => none) (fun _ _ => none) (fun _ => none)
    (fun _ _ _ _ _ _ => none) (fun _ => none) (fun _ _ _ _ => none) (fun _ => none) (fun _ _ _ => none) (fun _ _ _ => none) () (fun _ _ _ _ => ()) v (fun b o => loadF P t h b o)) (evF x F)
theorem loadOp_eq (t : TypeId) (x : Operand) (P : Program) (F : Fm) (h : H) : loadOp t x P F h = rop P F h (.load t x) := by
  unfold loadOp
  simp only [rop, evF_eq]
  cases ev F x with
  | none => rfl
  | some v => cases v <;> first | rfl | exact loadF_eq ..
noncomputable def storeF (P : Program) (t : TypeId) (h : H) (b o : Nat) (v : AV) : RE :=
  Option.rec (motive := fun _ => RE) none (fun ob => onCellsE ob (fun n c => Bool.rec (motive := fun _ => RE) (match storeA P h t b o v with | some h' => some (.tup [], h') | none => none)
    ((accC o).s c v fun c' => (accH b).s h.t (.cells n c') fun t' => some (.tup [], ⟨t', h.next⟩))
    (and (and v.one (isOne (szo P t))) (Nat.ble (Nat.succ o) n))) none) ((accH b).g h.t)
  where isOne (o : Option Nat) : Bool := match o with | some m => Nat.beq m 1 | none => false
theorem storeF_eq (P : Program) (t : TypeId) (h : H) (b o : Nat) (v : AV) : storeF P t h b o v = match storeA P h t b o v with | some h' => some (.tup [], h') | none => none := by
  unfold storeF
  rw [accH_g, onCellsE_eq]
  split
  · rename_i n c hb
    cases hc : (and (and v.one (storeF.isOne (szo P t))) (Nat.ble (Nat.succ o) n)) with
    | false => rfl
    | true =>
      simp only [Bool.and_eq_true] at hc
      obtain ⟨⟨h1, h2⟩, h3⟩ := hc
      have hsz : szo P t = some 1 := by
        unfold storeF.isOne at h2
        split at h2
        · rename_i m hm; rw [hm]; simpa using h2
        · cases h2
      have hcells : v.cells = [v] := by cases v <;> first | rfl | cases h1
      show (accC o).s c v _ = _
      rw [accC_s, accH_s]
      unfold storeA
      simp only [hb, hsz, hcells, putsK_eq, H.setK_eq]
      have h4 : (Nat.beq [v].length 1 && Nat.ble (o + 1) n && [v].all AV.one) = true := by simp [h1]; exact Nat.le_of_ble_eq_true h3
      rw [h4]
      rfl
  · rename_i hno
    have : storeA P h t b o v = none := by
      unfold storeA
      split
      · rename_i n c hb; exact (hno _ _ hb).elim
      · rfl
    rw [this]
end Go.Abs

/- Reads and effects, fast. No condition. -/
namespace Go.Abs
noncomputable def ropF (op : Op) : Program → Fm → H → Option AV :=
  Op.rec (motive := fun _ => Program → Fm → H → Option AV)
    (fun a0 P F h => rop P F h (.move a0))
    (fun a0 P F h => rop P F h (.assign a0))
    (fun a0 a1 a2 P F h => rop P F h (.pick a0 a1 a2))
    (fun a0 P F h => rop P F h (.alloc a0))
    (fun a0 a1 P F h => rop P F h (.box a0 a1))
    (fun a0 a1 P F h => rop P F h (.build a0 a1))
    (fun a0 a1 a2 P F h => rop P F h (.buildSlice a0 a1 a2))
    (fun a0 a1 a2 a3 P F h => rop P F h (.insert a0 a1 a2 a3))
    (fun t x P F h => loadOp t x P F h)
    (fun a0 a1 a2 P F h => rop P F h (.store a0 a1 a2))
    (fun a0 P F h => rop P F h (.ready a0))
    (fun a0 P F h => rop P F h (.waits a0))
    (fun a0 P F h => rop P F h (.nilCheck a0))
    (fun a0 a1 a2 a3 a4 P F h => rop P F h (.binOp a0 a1 a2 a3 a4))
    (fun a0 a1 a2 P F h => rop P F h (.unOp a0 a1 a2))
    (fun a0 a1 a2 P F h => rop P F h (.convert a0 a1 a2))
    (fun a0 a1 P F h => rop P F h (.sliceToArrayPointer a0 a1))
    (fun a0 a1 P F h => rop P F h (.makeInterface a0 a1))
    (fun a0 a1 a2 P F h => rop P F h (.makeFunc a0 a1 a2))
    (fun a0 a1 P F h => rop P F h (.makeMap a0 a1))
    (fun a0 a1 P F h => rop P F h (.makeChan a0 a1))
    (fun a0 a1 a2 P F h => rop P F h (.makeSlice a0 a1 a2))
    (fun a0 a1 a2 a3 a4 P F h => rop P F h (.slice a0 a1 a2 a3 a4))
    (fun a0 a1 a2 P F h => rop P F h (.fieldAddr a0 a1 a2))
    (fun a0 a1 a2 P F h => rop P F h (.field a0 a1 a2))
    (fun a0 a1 a2 P F h => rop P F h (.indexAddr a0 a1 a2))
    (fun a0 a1 a2 P F h => rop P F h (.index a0 a1 a2))
    (fun a0 a1 a2 a3 P F h => rop P F h (.lookup a0 a1 a2 a3))
    (fun a0 a1 a2 a3 P F h => rop P F h (.mapUpdate a0 a1 a2 a3))
    (fun a0 a1 a2 P F h => rop P F h (.mapEntry a0 a1 a2))
    (fun a0 a1 a2 a3 P F h => rop P F h (.entryStore a0 a1 a2 a3))
    (fun a0 a1 P F h => rop P F h (.range a0 a1))
    (fun a0 a1 P F h => rop P F h (.next a0 a1))
    (fun a0 P F h => rop P F h (.entry a0))
    (fun a0 a1 a2 a3 P F h => rop P F h (.typeAssert a0 a1 a2 a3))
    (fun a0 a1 P F h => rop P F h (.extract a0 a1))
    (fun a0 P F h => rop P F h (.call a0))
    (fun a0 P F h => rop P F h (.go a0))
    (fun a0 P F h => rop P F h (.defer a0))
    (fun a0 P F h => rop P F h (.panic a0))
    (fun a0 a1 P F h => rop P F h (.send a0 a1))
    (fun a0 a1 a2 P F h => rop P F h (.recv a0 a1 a2))
    (fun a0 a1 P F h => rop P F h (.select a0 a1)) op
theorem ropF_eq (op : Op) (P : Program) (F : Fm) (h : H) : ropF op P F h = rop P F h op := by
  cases op <;> first | rfl | exact loadOp_eq ..
noncomputable def evsF (l : List Operand) : Fm → Option (List AV) :=
  List.rec (motive := fun _ => Fm → Option (List AV)) (fun _ => some []) (fun x _ ih F => Option.rec (motive := fun _ => Option (List AV)) none (fun v => Option.rec (motive := fun _ => Option (List AV)) none (fun vs => some (v :: vs)) (ih F)) (evF x F)) l
theorem evsF_eq : ∀ (l : List Operand) (F : Fm), evsF l F = evs F l
  | [], F => rfl
  | x :: l, F => by
    show Option.rec (motive := fun _ => Option (List AV)) none (fun v => Option.rec (motive := fun _ => Option (List AV)) none (fun vs => some (v :: vs)) (evsF l F)) (evF x F) = _
    rw [evF_eq, evsF_eq l F]
    simp only [evs]
    cases ev F x with
    | none => rfl
    | some v => cases evs F l <;> rfl
noncomputable def storeOp (t : TypeId) (a x : Operand) (P : Program) (_X : Ext0) (_call : CallA) (F : Fm) (h : H) : RE :=
  Option.rec (motive := fun _ => RE) none (fun pa => Option.rec (motive := fun _ => RE) none (fun v => AV.rec (motive_1 := fun _ => (Nat → Nat → RE) → RE) (motive_2 := fun _ => Unit)
    (fun _ _ => none) (fun _ _ _ => none) (fun _ _ => none) (fun b o f => f b o) (fun _ => none) (fun _ _ _ _ _ _ _ => none) (fun _ => none) (fun _ _ => none) (fun _ => none)
    (fun _ _ _ _ _ _ => none) (fun _ => none) (fun _ _ _ _ => none) (fun _ => none) (fun _ _ _ => none) (fun _ _ _ => none) () (fun _ _ _ _ => ()) pa (fun b o => storeF P t h b o v)) (evF x F)) (evF a F)
theorem storeOp_eq (t : TypeId) (a x : Operand) (P : Program) (X : Ext0) (call : CallA) (F : Fm) (h : H) : storeOp t a x P X call F h = effA P X call F h (.store t a x) := by
  unfold storeOp
  simp only [effA, eop, evF_eq]
  cases ev F a with
  | none => rfl
  | some pa =>
    cases ev F x with
    | none => cases pa <;> rfl
    | some v =>
      cases pa <;> try rfl
      rename_i b o
      show storeF P t h b o v = _
      rw [storeF_eq]
      simp only []
      cases storeA P h t b o v <;> rfl
noncomputable def callVal (f : Operand) (c : Call) (P : Program) (X : Ext0) (call : CallA) (F : Fm) (h : H) : RE :=
  Option.rec (motive := fun _ => RE) none (fun v => AV.rec (motive_1 := fun _ => (FuncId → List AV → List AV → RE) → RE → RE) (motive_2 := fun _ => Unit)
    (fun _ _ d => d) (fun _ _ _ d => d) (fun _ _ d => d) (fun _ _ _ d => d) (fun _ d => d) (fun _ _ _ _ _ _ _ d => d) (fun _ d => d) (fun _ _ d => d) (fun _ d => d)
    (fun fn a b _ _ k d => Fn.rec (motive := fun _ => (FuncId → List AV → List AV → RE) → RE → List AV → List AV → RE) (fun g k _ a b => k g a b) (fun _ _ d _ _ => d) (fun _ _ _ d _ _ => d) (fun _ _ _ _ _ d _ _ => d) (fun _ _ d _ _ => d) fn k d a b)
    (fun _ d => d) (fun _ _ _ _ d => d) (fun _ d => d) (fun _ _ _ d => d) (fun _ _ _ d => d) () (fun _ _ _ _ => ()) v
    (fun g a b => Bool.rec (motive := fun _ => RE) (effA P X call F h (.call c)) (Option.rec (motive := fun _ => RE) none (fun as => call (.fn g) (a ++ as ++ b) h) (evsF c.args.toList F)) (okFn P g))
    (effA P X call F h (.call c))) (evF f F)
theorem callVal_eq (f : Operand) (c : Call) (hc : c.callee = .value f) (P : Program) (X : Ext0) (call : CallA) (F : Fm) (h : H) : callVal f c P X call F h = effA P X call F h (.call c) := by
  unfold callVal
  rw [evF_eq]
  cases hf : ev F f with
  | none => simp only [effA, eop, hc, hf]
  | some v =>
    cases v <;> try rfl
    rename_i fn a b
    cases fn <;> try rfl
    rename_i g
    show Bool.rec (motive := fun _ => RE) (effA P X call F h (.call c)) (Option.rec (motive := fun _ => RE) none (fun as => call (.fn g) (a ++ as ++ b) h) (evsF c.args.toList F)) (okFn P g) = _
    cases hok : okFn P g with
    | false => rfl
    | true =>
      rw [evsF_eq]
      simp only [effA, eop, hc, hf]
      cases hv : evs F c.args.toList with
      | none => rfl
      | some as => simp only [enterA, hok, cond_true]
noncomputable def callOp (c : Call) (P : Program) (X : Ext0) (call : CallA) (F : Fm) (h : H) : RE :=
  Callee.rec (motive := fun _ => Call → Program → Ext0 → CallA → Fm → H → RE) (fun f c P X call F h => callVal f c P X call F h) (fun _ _ c P X call F h => effA P X call F h (.call c)) (fun _ c P X call F h => effA P X call F h (.call c)) c.callee c P X call F h
theorem callOp_eq (c : Call) (P : Program) (X : Ext0) (call : CallA) (F : Fm) (h : H) : callOp c P X call F h = effA P X call F h (.call c) := by
  unfold callOp
  cases hc : c.callee with
  | value f => exact callVal_eq f c hc P X call F h
  | invoke x n => rfl
  | builtin b => rfl
noncomputable def effG (op : Op) : Program → Ext0 → CallA → Fm → H → RE :=
  Op.rec (motive := fun _ => Program → Ext0 → CallA → Fm → H → RE)
    (fun a0 P X call F h => effA P X call F h (.move a0))
    (fun a0 P X call F h => effA P X call F h (.assign a0))
    (fun a0 a1 a2 P X call F h => effA P X call F h (.pick a0 a1 a2))
    (fun a0 P X call F h => effA P X call F h (.alloc a0))
    (fun a0 a1 P X call F h => effA P X call F h (.box a0 a1))
    (fun a0 a1 P X call F h => effA P X call F h (.build a0 a1))
    (fun a0 a1 a2 P X call F h => effA P X call F h (.buildSlice a0 a1 a2))
    (fun a0 a1 a2 a3 P X call F h => effA P X call F h (.insert a0 a1 a2 a3))
    (fun a0 a1 P X call F h => effA P X call F h (.load a0 a1))
    (fun t a x P X call F h => storeOp t a x P X call F h)
    (fun a0 P X call F h => effA P X call F h (.ready a0))
    (fun a0 P X call F h => effA P X call F h (.waits a0))
    (fun a0 P X call F h => effA P X call F h (.nilCheck a0))
    (fun a0 a1 a2 a3 a4 P X call F h => effA P X call F h (.binOp a0 a1 a2 a3 a4))
    (fun a0 a1 a2 P X call F h => effA P X call F h (.unOp a0 a1 a2))
    (fun a0 a1 a2 P X call F h => effA P X call F h (.convert a0 a1 a2))
    (fun a0 a1 P X call F h => effA P X call F h (.sliceToArrayPointer a0 a1))
    (fun a0 a1 P X call F h => effA P X call F h (.makeInterface a0 a1))
    (fun a0 a1 a2 P X call F h => effA P X call F h (.makeFunc a0 a1 a2))
    (fun a0 a1 P X call F h => effA P X call F h (.makeMap a0 a1))
    (fun a0 a1 P X call F h => effA P X call F h (.makeChan a0 a1))
    (fun a0 a1 a2 P X call F h => effA P X call F h (.makeSlice a0 a1 a2))
    (fun a0 a1 a2 a3 a4 P X call F h => effA P X call F h (.slice a0 a1 a2 a3 a4))
    (fun a0 a1 a2 P X call F h => effA P X call F h (.fieldAddr a0 a1 a2))
    (fun a0 a1 a2 P X call F h => effA P X call F h (.field a0 a1 a2))
    (fun a0 a1 a2 P X call F h => effA P X call F h (.indexAddr a0 a1 a2))
    (fun a0 a1 a2 P X call F h => effA P X call F h (.index a0 a1 a2))
    (fun a0 a1 a2 a3 P X call F h => effA P X call F h (.lookup a0 a1 a2 a3))
    (fun a0 a1 a2 a3 P X call F h => effA P X call F h (.mapUpdate a0 a1 a2 a3))
    (fun a0 a1 a2 P X call F h => effA P X call F h (.mapEntry a0 a1 a2))
    (fun a0 a1 a2 a3 P X call F h => effA P X call F h (.entryStore a0 a1 a2 a3))
    (fun a0 a1 P X call F h => effA P X call F h (.range a0 a1))
    (fun a0 a1 P X call F h => effA P X call F h (.next a0 a1))
    (fun a0 P X call F h => effA P X call F h (.entry a0))
    (fun a0 a1 a2 a3 P X call F h => effA P X call F h (.typeAssert a0 a1 a2 a3))
    (fun a0 a1 P X call F h => effA P X call F h (.extract a0 a1))
    (fun c P X call F h => callOp c P X call F h)
    (fun a0 P X call F h => effA P X call F h (.go a0))
    (fun a0 P X call F h => effA P X call F h (.defer a0))
    (fun a0 P X call F h => effA P X call F h (.panic a0))
    (fun a0 a1 P X call F h => effA P X call F h (.send a0 a1))
    (fun a0 a1 a2 P X call F h => effA P X call F h (.recv a0 a1 a2))
    (fun a0 a1 P X call F h => effA P X call F h (.select a0 a1)) op
theorem effG_eq (op : Op) (P : Program) (X : Ext0) (call : CallA) (F : Fm) (h : H) : effG op P X call F h = effA P X call F h op := by
  cases op <;> first | rfl | exact storeOp_eq .. | exact callOp_eq ..
end Go.Abs

/- Steps, fast. No condition. -/
namespace Go.Abs
variable {γ : Type}
def idxOf (P : Program) (t : TypeId) : Option (Option Nat × Nat) :=
  match P.underlying t with
  | some (.array n e) => match szo P e with
    | some s => some (some n, s)
    | none => none
  | some (.slice e) => match szo P e with
    | some s => some (none, s)
    | none => none
  | _ => none
noncomputable def iadF (P : Program) (F : Fm) (t : TypeId) (x i : Operand) : Option PR :=
  bindO (idxOf P t) fun q => bindO (evF x F) fun v => bindO (evF i F) fun w => onNat w (fun _ j =>
    Prod.rec (motive := fun _ => Option PR) (fun n s => Option.rec (motive := fun _ => Option PR)
      (onSlice v (fun b o l c s' _ => Bool.rec (motive := fun _ => Option PR) none (some (.val (.ptr b (Nat.add o (Nat.mul j s'))))) (and (and (Nat.blt j l) (Nat.ble l c)) (Nat.beq s' s))) none)
      (fun n => onPtr v (fun b o => Bool.rec (motive := fun _ => Option PR) none (some (.val (.ptr b (Nat.add o (Nat.mul j s))))) (Nat.blt j n)) none) n) q) none
theorem onSlice_eq (v : AV) (f : Nat → Nat → Nat → Nat → Nat → Bool → γ) (d : γ) : onSlice v f d = match v with | .slice b o l c s e => f b o l c s e | _ => d := by cases v <;> rfl
theorem iadF_eq (P : Program) (F : Fm) (t : TypeId) (x i : Operand) : iadF P F t x i = pop P F (.indexAddr t x i) := by
  unfold iadF idxOf
  simp only [pop, evF_eq]
  cases hx : ev F x with
  | none =>
    have : ∀ (o : Option (Option Nat × Nat)) (k : Option Nat × Nat → AV → Option PR), (bindO o fun q => bindO (none : Option AV) (k q)) = (none : Option PR) := fun o k => by cases o <;> rfl
    rw [this]
    cases P.underlying t with
    | none => rfl
    | some d => cases d <;> rfl
  | some v =>
    cases hi : ev F i with
    | none =>
      have : ∀ (o : Option (Option Nat × Nat)) (k : Option Nat × Nat → AV → AV → Option PR), (bindO o fun q => bindO (some v) fun v => bindO (none : Option AV) (k q v)) = (none : Option PR) := fun o k => by cases o <;> rfl
      rw [this]
      cases P.underlying t with
      | none => rfl
      | some d => cases d <;> cases v <;> rfl
    | some w =>
      cases hu : P.underlying t with
      | none => rfl
      | some d =>
        cases d <;> try rfl
        case array n e =>
          simp only []
          cases hs : szo P e with
          | none => rw [bindO_none]; cases v <;> try rfl
                    cases w <;> try rfl
                    rename_i k z; cases z <;> try rfl
                    simp only [hs, Bool.cond_eq_ite]; split <;> rfl
          | some s =>
            rw [bindO_some, bindO_some, bindO_some, onNat_eq]
            cases w <;> try (cases v <;> rfl)
            rename_i k z; cases z <;> try (cases v <;> rfl)
            rename_i j
            simp only []
            rw [onPtr_eq]
            cases v <;> try rfl
            simp only [hs]
            cases Nat.blt j n <;> rfl
        case slice e =>
          simp only []
          cases hs : szo P e with
          | none => rw [bindO_none]; cases v <;> try rfl
                    cases w <;> try rfl
                    rename_i k z; cases z <;> try rfl
                    simp only [hs, Bool.cond_eq_ite]; split <;> rfl
          | some s =>
            rw [bindO_some, bindO_some, bindO_some, onNat_eq]
            cases w <;> try (cases v <;> rfl)
            rename_i k z; cases z <;> try (cases v <;> rfl)
            rename_i j
            simp only []
            rw [onSlice_eq]
            cases v <;> try rfl
            rename_i b o l c s' ex
            simp only [hs]
            cases Nat.blt j l <;> cases Nat.ble l c <;> cases Nat.beq s' s <;> rfl
noncomputable def nilF (P : Program) (F : Fm) (x : Operand) : Option PR := bindO (evF x F) fun v => onPtr v (fun b o => some (.val (.ptr b o))) (pop P F (.nilCheck x))
theorem nilF_eq (P : Program) (F : Fm) (x : Operand) : nilF P F x = pop P F (.nilCheck x) := by
  unfold nilF
  simp only [evF_eq]
  cases hx : ev F x with
  | none => simp only [pop, hx]; rfl
  | some v => rw [bindO_some, onPtr_eq]; cases v <;> try rfl
              simp only [pop, hx]
noncomputable def popF (op : Op) : Program → Fm → Option PR :=
  Op.rec (motive := fun _ => Program → Fm → Option PR)
    (fun x _ F => valF (evF x F))
    (fun x _ F => valF (evF x F))
    (fun c a b P F => pickF P F c a b)
    (fun a0 P F => pop P F (.alloc a0))
    (fun a0 a1 P F => pop P F (.box a0 a1))
    (fun a0 a1 P F => pop P F (.build a0 a1))
    (fun a0 a1 a2 P F => pop P F (.buildSlice a0 a1 a2))
    (fun a0 a1 a2 a3 P F => pop P F (.insert a0 a1 a2 a3))
    (fun a0 a1 P F => pop P F (.load a0 a1))
    (fun a0 a1 a2 P F => pop P F (.store a0 a1 a2))
    (fun a0 P F => pop P F (.ready a0))
    (fun a0 P F => pop P F (.waits a0))
    (fun x P F => nilF P F x)
    (fun op t x y _ P F => bin2F P F op t x y)
    (fun a0 a1 a2 P F => pop P F (.unOp a0 a1 a2))
    (fun s d x P F => conv2F P F s d x)
    (fun a0 a1 P F => pop P F (.sliceToArrayPointer a0 a1))
    (fun a0 a1 P F => pop P F (.makeInterface a0 a1))
    (fun a0 a1 a2 P F => pop P F (.makeFunc a0 a1 a2))
    (fun a0 a1 P F => pop P F (.makeMap a0 a1))
    (fun a0 a1 P F => pop P F (.makeChan a0 a1))
    (fun a0 a1 a2 P F => pop P F (.makeSlice a0 a1 a2))
    (fun a0 a1 a2 a3 a4 P F => pop P F (.slice a0 a1 a2 a3 a4))
    (fun t x f P F => fadF P F t x f)
    (fun a0 a1 a2 P F => pop P F (.field a0 a1 a2))
    (fun t x i P F => iadF P F t x i)
    (fun a0 a1 a2 P F => pop P F (.index a0 a1 a2))
    (fun a0 a1 a2 a3 P F => pop P F (.lookup a0 a1 a2 a3))
    (fun a0 a1 a2 a3 P F => pop P F (.mapUpdate a0 a1 a2 a3))
    (fun a0 a1 a2 P F => pop P F (.mapEntry a0 a1 a2))
    (fun a0 a1 a2 a3 P F => pop P F (.entryStore a0 a1 a2 a3))
    (fun a0 a1 P F => pop P F (.range a0 a1))
    (fun a0 a1 P F => pop P F (.next a0 a1))
    (fun a0 P F => pop P F (.entry a0))
    (fun a0 a1 a2 a3 P F => pop P F (.typeAssert a0 a1 a2 a3))
    (fun x i _ F => extF F x i)
    (fun a0 P F => pop P F (.call a0))
    (fun a0 P F => pop P F (.go a0))
    (fun a0 P F => pop P F (.defer a0))
    (fun a0 P F => pop P F (.panic a0))
    (fun a0 a1 P F => pop P F (.send a0 a1))
    (fun a0 a1 a2 P F => pop P F (.recv a0 a1 a2))
    (fun a0 a1 P F => pop P F (.select a0 a1)) op
theorem popF_eq (op : Op) (P : Program) (F : Fm) : popF op P F = pop P F op := by
  cases op <;> first
    | rfl
    | (show valF (evF _ F) = _; rw [valF_eq, evF_eq]; rfl)
    | exact pickF_eq ..
    | exact bin2F_eq ..
    | exact conv2F_eq ..
    | exact extF_eq ..
    | exact fadF_eq ..
    | exact iadF_eq ..
    | exact nilF_eq ..
noncomputable def wantF (o : Oper) (ops : Array Oper) (F : Fm) (y n : Option (Fm × H)) : Option (Fm × H) :=
  Option.rec (motive := fun _ => Option (Fm × H)) y (fun _ => Option.rec (motive := fun _ => Option (Fm × H)) none (fun b => Bool.rec (motive := fun _ => Option (Fm × H)) n y b) (wantA F ops o)) o.guard
theorem wantF_eq (o : Oper) (ops : Array Oper) (F : Fm) (y n : Option (Fm × H)) : wantF o ops F y n = match wantA F ops o with | some true => y | some false => n | none => none := by
  unfold wantF
  cases hg : o.guard with
  | none => simp only [wantA, hg]
  | some g =>
    show Option.rec (motive := fun _ => Option (Fm × H)) none (fun b => Bool.rec (motive := fun _ => Option (Fm × H)) n y b) (wantA F ops o) = _
    cases hw : wantA F ops o with
    | none => rfl
    | some b => cases b <;> rfl
noncomputable def pureF (P : Program) (ops : Array Oper) (i : Nat) (F : Fm) (h : H) (k : Fm → H → Option (Fm × H)) : Option (Fm × H) :=
  Option.rec (motive := fun _ => Option (Fm × H)) none (fun o => wantF o ops F
    (Option.rec (motive := fun _ => Option (Fm × H)) none (fun r => PR.rec (motive := fun _ => Option (Fm × H)) (fun v => forceVF v fun v => putDF o.dst F v fun F' => k F' h)
      (fun ob nk => forceVF (nk.val h.next) fun v => putDF o.dst F v fun F' => h.newK ob fun h' => k F' h') r) (popF o.op P F))
    (putDF o.dst F (.tup []) fun F' => k F' h)) ops[i]?
noncomputable def readF (P : Program) (ops : Array Oper) (i : Nat) (F : Fm) (h : H) (k : Fm → H → Option (Fm × H)) : Option (Fm × H) :=
  Option.rec (motive := fun _ => Option (Fm × H)) none (fun o => wantF o ops F
    (Option.rec (motive := fun _ => Option (Fm × H)) none (fun v => forceVF v fun v => putDF o.dst F v fun F' => k F' h) (ropF o.op P F h))
    (putDF o.dst F (.tup []) fun F' => k F' h)) ops[i]?
noncomputable def allF (chk : List Nat) (P : Program) (F : Fm) (h : H) (ops : Array Oper) (y : Option (Fm × H)) : Option (Fm × H) :=
  List.rec (motive := fun _ => Option (Fm × H)) y (fun r _ ih => Bool.rec (motive := fun _ => Option (Fm × H)) none ih (chkR P F h ops r)) chk
noncomputable def effF (P : Program) (X : Ext0) (call : CallA) (ops : Array Oper) (i : Nat) (chk : List Nat) (F : Fm) (h : H) (k : Fm → H → Option (Fm × H)) : Option (Fm × H) :=
  Option.rec (motive := fun _ => Option (Fm × H)) none (fun o => wantF o ops F
    (Option.rec (motive := fun _ => Option (Fm × H)) none (fun r => Prod.rec (motive := fun _ => Option (Fm × H)) (fun v h' => forceVF v fun v => putDF o.dst F v fun F' => allF chk P F' h' ops (k F' h')) r) (effG o.op P X call F h))
    (putDF o.dst F (.tup []) fun F' => allF chk P F' h ops (k F' h))) ops[i]?
noncomputable def stepF (s : PS) (P : Program) (X : Ext0) (call : CallA) (ops : Array Oper) (F : Fm) (h : H) (k : Fm → H → Option (Fm × H)) : Option (Fm × H) :=
  PS.rec (motive := fun _ => Program → Ext0 → CallA → Array Oper → Fm → H → (Fm → H → Option (Fm × H)) → Option (Fm × H))
    (fun i P _ _ ops F h k => pureF P ops i F h k) (fun i P _ _ ops F h k => readF P ops i F h k) (fun i chk P X call ops F h k => effF P X call ops i chk F h k) s P X call ops F h k
theorem allF_eq (P : Program) (F : Fm) (h : H) (ops : Array Oper) (y : Option (Fm × H)) : ∀ chk, allF chk P F h ops y = bif chk.all (chkR P F h ops) then y else none
  | [] => rfl
  | r :: rs => by
    show Bool.rec (motive := fun _ => Option (Fm × H)) none (allF rs P F h ops y) (chkR P F h ops r) = _
    rw [allF_eq P F h ops y rs, List.all_cons]
    cases chkR P F h ops r <;> rfl
theorem stepF_eq (s : PS) (P : Program) (X : Ext0) (call : CallA) (ops : Array Oper) (F : Fm) (h : H) (k : Fm → H → Option (Fm × H)) :
    stepF s P X call ops F h k = match stepP P X call ops s F h with | some (F', h') => k F' h' | none => none := by
  rw [stepP_eq]
  cases s with
  | p i =>
    show pureF P ops i F h k = _
    unfold pureF
    simp only [stepP0]
    cases ho : ops[i]? with
    | none => rfl
    | some o =>
      show wantF o ops F _ _ = _
      rw [wantF_eq, popF_eq]
      simp only []
      split
      · rename_i hw; simp only [hw]
        cases hp : pop P F o.op with
        | none => rfl
        | some r =>
          cases r with
          | val v => simp only [forceVF_eq, putDF_eq]
          | new ob nk => simp only [forceVF_eq, putDF_eq, H.newK_eq]
      · rename_i hw; simp only [hw, putDF_eq]
      · rename_i hw; simp only [hw]
  | r i =>
    show readF P ops i F h k = _
    unfold readF
    simp only [ropF_eq]
    simp only [stepP0]
    cases ho : ops[i]? with
    | none => rfl
    | some o =>
      show wantF o ops F _ _ = _
      rw [wantF_eq]
      simp only []
      split
      · rename_i hw; simp only [hw]
        cases hp : rop P F h o.op with
        | none => rfl
        | some v => simp only [forceVF_eq, putDF_eq]
      · rename_i hw; simp only [hw, putDF_eq]
      · rename_i hw; simp only [hw]
  | e i chk =>
    show effF P X call ops i chk F h k = _
    unfold effF
    simp only [effG_eq]
    simp only [stepP0]
    cases ho : ops[i]? with
    | none => rfl
    | some o =>
      show wantF o ops F _ _ = _
      rw [wantF_eq]
      simp only []
      split
      · rename_i hw; simp only [hw]
        cases hp : effA P X call F h o.op with
        | none => rfl
        | some r =>
          obtain ⟨v, h'⟩ := r
          simp only [forceVF_eq, putDF_eq, allF_eq]
          cases chk.all (chkR P (putD F o.dst v) h' ops) <;> rfl
      · rename_i hw; simp only [hw, putDF_eq, allF_eq]
        cases chk.all (chkR P (putD F o.dst (.tup [])) h ops) <;> rfl
      · rename_i hw; simp only [hw]
noncomputable def runF (l : List PS) : Program → Ext0 → CallA → Array Oper → Fm → H → Option (Fm × H) :=
  List.rec (motive := fun _ => Program → Ext0 → CallA → Array Oper → Fm → H → Option (Fm × H)) (fun _ _ _ _ F h => some (F, h))
    (fun s _ ih P X call ops F h => stepF s P X call ops F h (ih P X call ops)) l
theorem runF_eq (P : Program) (X : Ext0) (call : CallA) (ops : Array Oper) : ∀ (l : List PS) (F : Fm) (h : H), runF l P X call ops F h = runP P X call ops l F h
  | [], F, h => rfl
  | s :: rest, F, h => by
    show stepF s P X call ops F h (runF rest P X call ops) = _
    rw [stepF_eq]
    simp only [runP]
    cases stepP P X call ops s F h with
    | none => rfl
    | some r => obtain ⟨F', h'⟩ := r; exact runF_eq P X call ops rest F' h'
end Go.Abs

/- Code, fast. No condition. -/
namespace Go.Abs
noncomputable def regF (P : Program) (X : Ext0) (call : CallA) (n : Nat) (ops : Array Oper) (draw : Bool) (F : Fm) (h : H) : Option (Fm × H) :=
  Bool.rec (motive := fun _ => Option (Fm × H))
    (Bool.rec (motive := fun _ => Option (Fm × H)) none (runF (seqPlan P ops.toList 0) P X call ops F h) (dstsOk n ops.toList))
    (Bool.rec (motive := fun _ => Option (Fm × H)) none (runF (mkPlan P ops) P X call ops F h) (chkPlan ops n (wOf (mkPlan P ops)) [] [] [] [] (mkPlan P ops))) draw
theorem regF_eq (P : Program) (X : Ext0) (call : CallA) (n : Nat) (ops : Array Oper) (draw : Bool) (F : Fm) (h : H) : regF P X call n ops draw F h = regA P X call n ops draw F h := by
  unfold regF regA
  rw [runF_eq, runF_eq]
  cases draw with
  | false => cases dstsOk n ops.toList <;> rfl
  | true => cases chkPlan ops n (wOf (mkPlan P ops)) [] [] [] [] (mkPlan P ops) <;> rfl
noncomputable def onNormal (o : Option Out) (k : Fm → List Nat → H → Option Out) : Option Out :=
  Option.rec (motive := fun _ => (Fm → List Nat → H → Option Out) → Option Out) (fun _ => none)
    (fun o k => Out.rec (motive := fun _ => (Fm → List Nat → H → Option Out) → Option Out)
      (fun ex F ds h k => Ex.rec (motive := fun _ => Fm → List Nat → H → (Fm → List Nat → H → Option Out) → Option Out) (fun F ds h k => k F ds h) (fun id F ds h _ => some ⟨.exit id, F, ds, h⟩) (fun F ds h _ => some ⟨.ret, F, ds, h⟩) ex F ds h k) o k) o k
theorem onNormal_eq (o : Option Out) (k : Fm → List Nat → H → Option Out) : onNormal o k = match o with | some ⟨.normal, F', ds', h'⟩ => k F' ds' h' | r => r := by
  cases o with
  | none => rfl
  | some o => obtain ⟨ex, F, ds, h⟩ := o; cases ex <;> rfl
noncomputable def loopF (body : Fm → List Nat → H → Option Out) (n : Nat) : Fm → List Nat → H → Option Out :=
  Nat.rec (motive := fun _ => Fm → List Nat → H → Option Out) (fun _ _ _ => none) (fun _ ih F ds h => onNormal (body F ds h) ih) n
theorem loopF_eq (body : Fm → List Nat → H → Option Out) : ∀ (n : Nat) (F : Fm) (ds : List Nat) (h : H), loopF body n F ds h = loopA body n F ds h
  | 0, F, ds, h => rfl
  | n + 1, F, ds, h => by
    show onNormal (body F ds h) (loopF body n) = _
    rw [onNormal_eq]
    simp only [loopA]
    cases body F ds h with
    | none => rfl
    | some o => obtain ⟨ex, F, ds, h⟩ := o; cases ex <;> first | rfl | exact loopF_eq body n _ _ _
noncomputable def inBlock (id : Nat) (o : Option Out) : Option Out :=
  Option.rec (motive := fun _ => Option Out) none
    (fun o => Out.rec (motive := fun _ => Option Out)
      (fun ex F ds h => Ex.rec (motive := fun _ => Fm → List Nat → H → Option Out) (fun F ds h => some ⟨.normal, F, ds, h⟩)
        (fun j F ds h => Bool.rec (motive := fun _ => Option Out) (some ⟨.exit j, F, ds, h⟩) (some ⟨.normal, F, ds, h⟩) (Nat.beq j id)) (fun F ds h => some ⟨.ret, F, ds, h⟩) ex F ds h) o) o
noncomputable def condF (c : Operand) (F : Fm) (x y : Option Out) : Option Out :=
  Option.rec (motive := fun _ => Option Out) none (fun v => onBool v (fun b => Bool.rec (motive := fun _ => Option Out) y x b) none) (evF c F)
noncomputable def execF (c : Code) : Program → Ext0 → CallA → Nat → Nat → Bool → Fm → List Nat → H → Option Out :=
  Code.rec (motive := fun _ => Program → Ext0 → CallA → Nat → Nat → Bool → Fm → List Nat → H → Option Out)
    (fun _ _ _ _ _ _ F ds h => some ⟨.normal, F, ds, h⟩)
    (fun _ ops draw P X call _ n _ F ds h => Option.rec (motive := fun _ => Option Out) none (fun r => Prod.rec (motive := fun _ => Option Out) (fun F h => some ⟨.normal, F, ds, h⟩) r) (regF P X call n ops draw F h))
    (fun _ _ ia ib P X call L n r F ds h => onNormal (ia P X call L n r F ds h) (ib P X call L n r))
    (fun c _ _ ia ib P X call L n r F ds h => condF c F (ia P X call L n r F ds h) (ib P X call L n r F ds h))
    (fun id _ ib P X call L n r F ds h => inBlock id (ib P X call L n r F ds h))
    (fun _ ib P X call L n r F ds h => loopF (ib P X call L n r) L F ds h)
    (fun g ps as bd _ _ P X call L n r F ds h => execC P X call L n r (.rangeFunc g ps as bd) F ds h)
    (fun id _ _ _ _ _ _ F ds h => some ⟨.exit id, F, ds, h⟩)
    (fun _ ib P X call L n r F ds h => Bool.rec (motive := fun _ => Option Out) (ib P X call L n r F ds h) none r)
    (fun _ _ _ _ _ _ _ F ds h => some ⟨.normal, F, ds, h⟩)
    (fun _ _ _ _ _ _ _ _ _ _ => none)
    (fun _ _ _ _ _ _ F ds h => some ⟨.ret, F, ds, h⟩)
    (fun _ _ _ _ _ _ _ _ _ _ => none) c
theorem execF_eq (P : Program) (X : Ext0) (call : CallA) (L n : Nat) (r : Bool) : ∀ (c : Code) (F : Fm) (ds : List Nat) (h : H), execF c P X call L n r F ds h = execC P X call L n r c F ds h := by
  intro c
  induction c with
  | skip => intro F ds h; rfl
  | label l => intro F ds h; rfl
  | exit id => intro F ds h; rfl
  | ret => intro F ds h; rfl
  | goto l => intro F ds h; rfl
  | refuse s => intro F ds h; rfl
  | region id ops draw =>
    intro F ds h
    show Option.rec (motive := fun _ => Option Out) none (fun r => Prod.rec (motive := fun _ => Option Out) (fun F h => some ⟨.normal, F, ds, h⟩) r) (regF P X call n ops draw F h) = _
    rw [regF_eq]
    simp only [execC]
    cases regA P X call n ops draw F h <;> rfl
  | seq x y ihx ihy =>
    intro F ds h
    show onNormal (execF x P X call L n r F ds h) (execF y P X call L n r) = _
    rw [onNormal_eq, ihx]
    simp only [execC]
    cases execC P X call L n r x F ds h with
    | none => rfl
    | some o => obtain ⟨ex, F, ds, h⟩ := o; cases ex <;> first | rfl | exact ihy _ _ _
  | cond c x y ihx ihy =>
    intro F ds h
    show condF c F (execF x P X call L n r F ds h) (execF y P X call L n r F ds h) = _
    unfold condF
    rw [ihx, ihy, evF_eq]
    simp only [execC]
    cases ev F c with
    | none => rfl
    | some v =>
      show onBool v _ _ = _
      rw [onBool_eq]
      cases v <;> try rfl
      rename_i b; cases b <;> rfl
  | block id b ih =>
    intro F ds h
    show inBlock id (execF b P X call L n r F ds h) = _
    rw [ih]
    simp only [execC]
    cases execC P X call L n r b F ds h with
    | none => rfl
    | some o => obtain ⟨ex, F, ds, h⟩ := o
                cases ex <;> try rfl
                rename_i j
                show Bool.rec (motive := fun _ => Option Out) _ _ (Nat.beq j id) = _
                cases hj : Nat.beq j id <;> simp only [hj] <;> rfl
  | loop b ih =>
    intro F ds h
    show loopF (execF b P X call L n r) L F ds h = _
    rw [loopF_eq]
    simp only [execC]
    congr 1
    funext F ds h
    exact ih F ds h
  | scope b ih =>
    intro F ds h
    show Bool.rec (motive := fun _ => Option Out) (execF b P X call L n r F ds h) none r = _
    rw [ih]
    simp only [execC]
    cases r <;> rfl
  | rangeFunc g ps as bd _ _ => intro F ds h; rfl
noncomputable def fnF (P : Program) (X : Ext0) (call : CallA) (L : Nat) (f : FuncId) (args : List AV) (h : H) : Option (AV × H) :=
  match P.funcs[f]? with
  | some fn => match fn.body with
    | some c => forceN (Nat.max args.length fn.ntmps) fun n => forceL args fun args => putsK .nil 0 args fun F0 => match execF c P X call L n false F0 [] h with
      | some ⟨.exit _, _, _, _⟩ => none
      | some ⟨_, F, ds, h'⟩ => match killDs ds h' with
        | some h2 => match resA P h2 F fn.results.toList with
          | some vs => some (retV vs, h2)
          | none => none
        | none => none
      | none => none
    | none => none
  | none => none
theorem fnF_eq (P : Program) (X : Ext0) (call : CallA) (L : Nat) (f : FuncId) (args : List AV) (h : H) : fnF P X call L f args h = fnA P X call L f args h := by
  unfold fnF fnA
  simp only [execF_eq]
  rfl
noncomputable def yieldF (P : Program) (X : Ext0) (call : CallA) (L : Nat) (l : Nat) (args : List AV) (h : H) : Option (AV × H) :=
  match h.obj l with
  | some (.loop _ _ n fr ps as bd _) => match putParams fr ps args with
    | some F0 => bif paramsOk n ps then
      match execF as P X call L n true F0 [] h with
      | some ⟨.normal, F1, ds1, h1⟩ => match h1.obj l with
        | some (.loop .ready pend n' fr' ps' as' bd' d') =>
          match execF bd P X call L n true F1 ds1 (h1.set l (.loop .busy pend n' fr' ps' as' bd' d')) with
          | some ⟨ex, _, _, h2⟩ => roundEnd l ex h2
          | none => none
        | _ => none
      | _ => none
      else none
    | none => none
  | _ => none
theorem yieldF_eq (P : Program) (X : Ext0) (call : CallA) (L : Nat) (l : Nat) (args : List AV) (h : H) : yieldF P X call L l args h = yieldA P X call L l args h := by
  unfold yieldF yieldA
  simp only [execF_eq]
  rfl
noncomputable def callF (P : Program) (X : Ext0) (S : Sums) (L : Nat) (d : Nat) : CallA :=
  Nat.rec (motive := fun _ => CallA) (fun _ _ _ => none)
    (fun _ ih t => Tgt.rec (motive := fun _ => List AV → H → Option (AV × H)) (fun f args h => Option.rec (motive := fun _ => Option (AV × H)) (fnF P X ih L f args h) (fun s => s args h) (S f)) (fun l args h => yieldF P X ih L l args h) t) d
theorem callF_eq (P : Program) (X : Ext0) (S : Sums) (L : Nat) : ∀ d, callF P X S L d = callA P X S L d
  | 0 => rfl
  | d + 1 => by
    funext t args h
    cases t with
    | fn f =>
      show Option.rec (motive := fun _ => Option (AV × H)) (fnF P X (callF P X S L d) L f args h) (fun s => s args h) (S f) = _
      rw [fnF_eq, callF_eq P X S L d]
      simp only [callA]
      cases S f <;> rfl
    | yield l =>
      show yieldF P X (callF P X S L d) L l args h = _
      rw [yieldF_eq, callF_eq P X S L d]
      rfl
end Go.Abs

/- Three functions without a body: what each gives. No condition. -/
namespace Go.Abs
variable {P : Program}
theorem run_ext {f : FuncId} {fn : Func} {e : Array Value → Sem Value} (hf : P.funcs[f]? = some fn) (hname : (fn.name == "runtime.NumGoroutine") = false) (hb : fn.body = none)
    (hx : (Extern.findNext fn).isNone = true) (he : Extern.find fn = some e) (args : Array Value) {w w' : World} {v : Value} (hr : (e args).run P w = .ok v w') : (callFunc f args).run P w = .ok (.value v) w' := by
  have hx' : Extern.findNext fn = none := by simpa using hx
  simp only [beq_eq_false_iff_ne] at hname
  simp [callFunc, hf, hname, hb, hx', he, hr]
noncomputable def cloneA : List AV → H → Option (AV × H)
  | [.iface t (.map r)], h => match h.obj r with
    | some (.map es cl) => some (.iface t (.map h.next), h.new (.map es cl))
    | _ => none
  | _, _ => none
theorem cloneA_spec {args : List AV} {h h' : H} {v : AV} (he : cloneA args h = some (v, h')) {ι : Io} {w : World} {us : List Value} (r : R ι h w) (hv : VRs ι args us) :
    ∃ (ι' : Io) (u : Value) (w' : World), VR ι' v u ∧ R ι' h' w' ∧ Keep ι ι' h h' w w' ∧ (Extern.MapsClone.clone us.toArray).run P w = .ok u w' := by
  unfold cloneA at he
  split at he
  · rename_i t rr
    split at he
    · rename_i es cl hob; cases he
      obtain ⟨u, us', rfl, h1, h2⟩ := hv.head
      obtain rfl := h2.isNil
      cases h1 with | iface h1 => ?_
      cases h1 with | map hp => ?_
      rename_i p
      obtain ⟨es', g1, g2⟩ := r.mapAt hob hp
      have hfr := r.fresh h.next (Nat.le_refl _)
      have hext : Ext ι (upd ι h.next ⟨w.heap.size, 0, 1⟩) := .upd _ hfr
      refine ⟨upd ι h.next ⟨w.heap.size, 0, 1⟩, _, w.alloc (.map es' cl), .iface (.map (p := ⟨w.heap.size, 0, 1⟩) (upd_same _ _ _)), r.new _ (by simp) _ _ ⟨es', heap_alloc_new w _, g2.1, fun i e e' q1 q2 => ?_⟩, .new r _ (by simp) _ _, ?_⟩
      · obtain ⟨k1, k2, k3⟩ := g2.2 i e e' q1 q2
        exact ⟨k1.mono hext, k2.mono hext, k3⟩
      · have hd : Extern.MapsClone.clone #[.iface t (.map (some p.blk))] = (do
            let .map entries clock ← getObj p.blk | stuck _
            pure (.iface t (.map (some (← newObj (.map entries clock)))))) := rfl
        show (Extern.MapsClone.clone #[.iface t (.map (some p.blk))]).run P w = _
        rw [hd]
        simp [run_getMap g1]
    · cases he
  · cases he
noncomputable def noZeroA : List AV → H → Option (AV × H)
  | [.int .i64 (.ofNat n)], h => bif Nat.ble n 281474976710656 then some (.slice h.next 0 n n 1 false, h.new (.cells n .nil)) else none
  | _, _ => none
theorem noZeroA_spec {args : List AV} {h h' : H} {v : AV} (he : noZeroA args h = some (v, h')) {ps : Array TypeId} {t e : TypeId} (ht : P.underlying t = some (.slice e)) {ι : Io} {w : World} {us : List Value} (r : R ι h w) (hv : VRs ι args us) :
    ∃ (ι' : Io) (u : Value) (w' : World), VR ι' v u ∧ R ι' h' w' ∧ Keep ι ι' h h' w w' ∧ (Extern.BytealgMakeNoZero.makeNoZero ps #[t] us.toArray).run P w = .ok u w' := by
  unfold noZeroA at he
  split at he
  · rename_i n
    rw [Bool.cond_eq_ite] at he
    split at he
    · rename_i hn; cases he
      obtain ⟨u, us', rfl, h1, h2⟩ := hv.head
      obtain rfl := h2.isNil
      cases h1
      obtain ⟨cs, g1, g2, _⟩ := Lib.run_makeNoZero_cap (P := P) w ps t e ht n (Nat.le_of_ble_eq_true hn)
      have rd : R ι h w.drew.drew := r.drew.drew
      refine ⟨upd ι h.next ⟨w.drew.drew.heap.size, 0, cs.size⟩, _, _, .slice (Nat.le_refl _) g2 (by simp) (fun _ => ⟨_, upd_same _ _ _, rfl, fun _ => by simp⟩) (fun _ => ⟨_, upd_same _ _ _⟩),
        rd.new _ (by simp) _ _ ⟨g2, fun i hi => ⟨?_, ?_⟩, fun i v _ hv => (by simp [Tr.at_nil] at hv)⟩, ((Keep.refl ι h w).drew.drew).trans (.new rd _ (by simp) _ _), g1⟩
      · simp only [Nat.zero_add, World.cell?_alloc_new]; simp at hi; simp [hi]
      · have := heap_alloc_new w.drew.drew (.cells cs e)
        unfold World.frozen?
        simp only [this]
        simp
    · cases he
  · cases he
theorem run_loadBytes {w : World} {b : Nat} : ∀ (ns : List Int) (o : Nat) (acc : ByteArray), (∀ (i : Nat) n, ns[i]? = some n → w.cell? ⟨b, o + i, none⟩ = some (.int .u8 n)) →
    (Extern.Bytes.loadBytes ⟨b, o, none⟩ ns.length acc).run P w = .ok (ns.foldl (fun r n => r.push n.toNat.toUInt8) acc) w
  | [], o, acc, _ => rfl
  | n :: ns, o, acc, h => by
    have h0 := h 0 n rfl
    simp only [List.length_cons, Extern.Bytes.loadBytes, Sem.run_bind, run_load, Nat.add_zero] at h0 ⊢
    rw [h0]
    simp only [Result.andThen_ok, List.foldl_cons]
    rw [addr_add]
    exact run_loadBytes ns (o + 1) _ fun i m hi => by
      have := h (i + 1) m (by simpa using hi)
      rwa [show o + (i + 1) = o + 1 + i by omega] at this
noncomputable def countA : List AV → H → Option (AV × H)
  | [.slice b o n cp 1 _, .int .u8 c], h => bif Nat.blt 0 n && Nat.ble n cp then
      match h.obj b with
      | some (.cells m cs) => bif Nat.ble (o + n) m then
          match gets cs o n with
          | some vs => match bytesA vs with
            | some ns => ofV1 (goInt ((ns.foldl (fun r n => r.push n.toNat.toUInt8) ByteArray.empty).foldl (fun n x => if x == c.toNat.toUInt8 then n + 1 else n) (0 : Nat))) |>.map fun v => (v, h)
            | none => none
          | none => none
        else none
      | _ => none
    else none
  | _, _ => none
theorem countA_spec {args : List AV} {h h' : H} {v : AV} (he : countA args h = some (v, h')) {ι : Io} {w : World} {us : List Value} (r : R ι h w) (hv : VRs ι args us) :
    ∃ (ι' : Io) (u : Value) (w' : World), VR ι' v u ∧ R ι' h' w' ∧ Keep ι ι' h h' w w' ∧ (Extern.BytealgCount.count us.toArray).run P w = .ok u w' := by
  unfold countA at he
  split at he
  · rename_i b o n cp ex c
    rw [Bool.cond_eq_ite] at he
    split at he
    · rename_i hc
      simp only [Bool.and_eq_true, Nat.blt_eq, Nat.ble_eq] at hc
      split at he
      · rename_i m cs hob
        rw [Bool.cond_eq_ite] at he
        split at he
        · rename_i hle
          split at he
          · rename_i vs hvs
            split at he
            · rename_i ns hns
              simp only [Option.map_eq_some_iff, Prod.mk.injEq] at he
              obtain ⟨v', hv', rfl, rfl⟩ := he
              obtain ⟨u1, u2, rfl, h1, h2⟩ := vrs_two hv
              cases h2
              cases h1 with | slice q1 q2 q3 q4 q5 => ?_
              rename_i ad rcap
              obtain ⟨p, hp, rfl, _⟩ := q4 (by omega)
              obtain ⟨us, g1, g2, g3⟩ := r.cellsAt hob hp (Nat.le_of_ble_eq_true hle) hvs
              have hus := bytesA_spec hns g1
              subst hus
              refine ⟨ι, _, w, ofV1_vr hv', r, .refl _ _ _, ?_⟩
              have hd : Extern.BytealgCount.count #[.slice (some ⟨p.blk, p.base + o, none⟩) n rcap, .int .u8 c] = (do
                let b ← Extern.Bytes.loadBytes ⟨p.blk, p.base + o, none⟩ n .empty
                let c ← Extern.Bytes.asByte (.int .u8 c)
                pure (goInt (b.foldl (fun n x => if x == c then n + 1 else n) (0 : Nat)))) := rfl
              show (Extern.BytealgCount.count #[.slice (some ⟨p.blk, p.base + o, none⟩) n rcap, .int .u8 c]).run P w = _
              rw [hd]
              have hn : ns.length = n := by simpa using g2
              have := run_loadBytes (P := P) (w := w) (b := p.blk) ns (p.base + o) .empty fun i m hi => g3 i _ (by simp [hi])
              rw [hn] at this
              simp [this, Extern.Bytes.asByte]
            · cases he
          · cases he
        · cases he
      · cases he
    · cases he
  · cases he
end Go.Abs
