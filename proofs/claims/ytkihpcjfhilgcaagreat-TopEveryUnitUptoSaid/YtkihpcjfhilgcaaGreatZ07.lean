/- Calls, looked at: sound. No condition. -/
import Derived.Test.YtkihpcjfhilgcaaGreatZ06
namespace Go.Abs
variable {P : Program} {X : Ext0} {call : CallA} {L : Nat}
theorem gf_none : Gf none = Fence.wide := rfl
theorem gf_some (l : Nat) : Gf (some l) = Fence.wide.inRound l := rfl
theorem fr_ofL {ι : Io} {args : List AV} {us : List Value} (h : VRs ι args us) (k : Nat) : FR ι (ofL args) (us.toArray ++ Array.replicate k undef) := by
  intro t v hv
  unfold ofL at hv
  rw [at_puts] at hv
  split at hv
  · obtain ⟨u, hu, hvu⟩ := h.get (by simpa using hv)
    refine ⟨u, ?_, hvu⟩
    have hlt : t < us.length := (List.getElem?_eq_some_iff.1 hu).1
    rw [Array.getElem?_append_left (by simpa using hlt)]
    simpa using hu
  · simp [Tr.at_nil] at hv
theorem fnA_sound (hX : ExtSound P X) (hC : CallSound P call) (hm : P.follows .mixedOrders = true) {f : FuncId} {args : List AV} {h h' : H} {v : AV} (he : fnA P X call L f args h = some (v, h'))
    {ι : Io} {w : World} {us : List Value} (r : R ι h w) (hv : VRs ι args us) : Calls P f us.toArray w (Ret ι h w v h') := by
  unfold fnA at he
  simp only [forceN_eq, forceL_eq, putsK_eq] at he
  split at he
  · rename_i fn hf
    split at he
    · rename_i c hb
      have hn : (us.toArray ++ Array.replicate (fn.ntmps - us.toArray.size) undef).size = Nat.max args.length fn.ntmps := by
        simp [hv.len, Nat.max_def]
        split <;> omega
      have key : ∀ {ex F ds h1}, execC P X call L (Nat.max args.length fn.ntmps) false c (ofL args) [] h = some ⟨ex, F, ds, h1⟩ → (ex = .normal ∨ ex = .ret) → ∀ {h2 vs}, killDs ds h1 = some h2 → resA P h2 F fn.results.toList = some vs →
          v = retV vs → h' = h2 → Calls P f us.toArray w (Ret ι h w v h') := by
        rintro ex F ds h1 hex hexr h2 vs hk hr rfl rfl
        refine callsIn_wide.1 (callsIn_of_wp_marks (F := Fence.wide) (n := 0) hf hb trivial ?_)
        rw [← gf_none]
        refine exec_sound (nn := 0) hX hC hm (inR := false) (ρ := none) (fun _ => rfl) c hex (fr_ofL hv _) trivial r hn fun ι' a' w' l => ?_
        have post : LeavesInM Fence.wide 0 P fn a'.tmps (Ret ι h w (retV vs) h') a'.defers .returning w' := by
          refine killDs_leaves l.ds hk l.r fun w'' r'' k'' => ?_
          obtain ⟨u, g1, g2⟩ := results_spec r'' l.fr hr
          exact ⟨u, g2, ι', g1, r'', l.k.trans k''⟩
        rcases hexr with rfl | rfl
        · exact post
        · exact post
      split at he
      · cases he
      · rename_i ex F ds h1 hne hex
        split at he
        · rename_i h2 hk
          split at he
          · rename_i vs hr; cases he
            refine key hex ?_ hk hr rfl rfl
            cases ex with
            | normal => exact .inl rfl
            | ret => exact .inr rfl
            | exit id => exact (hne _ rfl).elim
          · cases he
        · cases he
      · cases he
    · cases he
  · cases he
theorem putParams_spec {ι : Io} {n : Nat} : ∀ {ps : List Tmp} {args : List AV} {us : List Value} {fr F0 : Fm} {tmps : Array Value}, putParams fr ps args = some F0 → FR ι fr tmps → VRs ι args us → paramsOk n ps = true → tmps.size = n →
    ps.length = us.length ∧ FR ι F0 ((ps.zip us).foldl (fun tmps (x : Tmp × Value) => tmps.setIfInBounds x.1 x.2) tmps) ∧ ((ps.zip us).foldl (fun tmps (x : Tmp × Value) => tmps.setIfInBounds x.1 x.2) tmps).size = n
  | [], [], us, fr, F0, tmps, h, hf, hv, _, hn => by
    cases h
    obtain rfl := hv.isNil
    exact ⟨rfl, hf, hn⟩
  | p :: ps, v :: vs, us, fr, F0, tmps, h, hf, hv, hp, hn => by
    obtain ⟨u, us', rfl, h1, h2⟩ := hv.head
    simp only [paramsOk, List.all_cons, Bool.and_eq_true, Nat.blt_eq] at hp
    simp only [putParams] at h
    have hf' : FR ι (fr.put p v) (tmps.setIfInBounds p u) := by
      intro t v' hv'
      rw [Tr.at_put] at hv'
      rw [Array.getElem?_setIfInBounds]
      by_cases e : t = p
      · subst e
        rw [if_pos rfl] at hv'; cases hv'
        exact ⟨u, by simp [hn, hp.1], h1⟩
      · rw [if_neg e] at hv'
        rw [if_neg (fun e' => e e'.symm)]
        exact hf t v' hv'
    obtain ⟨g1, g2, g3⟩ := putParams_spec h hf' h2 hp.2 (by simpa using hn)
    exact ⟨by simp [g1], by simpa using g2, by simpa using g3⟩
  | [], _ :: _, _, _, _, _, h, _, _, _, _ => by cases h
  | _ :: _, [], _, _, _, _, h, _, _, _, _ => by cases h
theorem yieldA_sound (hX : ExtSound P X) (hC : CallSound P call) (hm : P.follows .mixedOrders = true) {l : Nat} {args : List AV} {h h' : H} {v : AV} (he : yieldA P X call L l args h = some (v, h'))
    {ι : Io} {w : World} {us : List Value} {p : Pl} (r : R ι h w) (hv : VRs ι args us) (hp : ι l = some p) :
    ∃ fn tmps assign body, (Instr.yield p.blk us.toArray).run P w = .ok (.round p.blk fn tmps assign body) w ∧ ∀ nn, RoundIn Fence.wide nn P p.blk fn tmps assign body w (Ret ι h w v h') := by
  unfold yieldA at he
  split at he
  · rename_i st pend n fr ps as bd d hob
    split at he
    · rename_i F0 hF0
      rw [Bool.cond_eq_ite] at he
      split at he
      · rename_i hpo
        obtain ⟨tmps, d', fn, g1, g2, g3, q, g4, g5⟩ := r.obj _ _ _ hob hp
        obtain ⟨k1, k2, k3⟩ := putParams_spec hF0 g3 hv hpo g2
        have hfold : (ps.toArray.zip us.toArray).foldl (fun tmps (x : Tmp × Value) => tmps.setIfInBounds x.1 x.2) tmps = (ps.zip us).foldl (fun tmps (x : Tmp × Value) => tmps.setIfInBounds x.1 x.2) tmps := by
          rw [← Array.foldl_toList]; simp
        refine ⟨fn, _, as, bd, run_yield g1 (by simp [k1]), fun nn => ?_⟩
        simp only
        split at he
        · rename_i F1 ds1 h1 hex1
          split at he
          · rename_i pend1 n1 fr1 ps1 as1 bd1 d1 hob1
            split at he
            · rename_i ex F2 ds2 h2 hex2
              refine roundIn_of_wpIn trivial ?_
              rw [← gf_some]
              have hfold' : (ps.toArray.zip us.toArray).foldl (fun tmps (t, a) => tmps.setIfInBounds t a) tmps = (ps.zip us).foldl (fun tmps (x : Tmp × Value) => tmps.setIfInBounds x.1 x.2) tmps := hfold
              rw [hfold']
              refine exec_sound (nn := nn) hX hC hm (inR := true) (ρ := some p.blk) (fun hh => by cases hh) as hex1 k2 trivial r k3 fun ι1 a1 w1 l1 => ?_
              have hp1 := l1.k.ext _ _ hp
              obtain ⟨tmps1, d1', fn1, m1, m2, m3, q1, m4, m5⟩ := l1.r.obj _ _ _ hob1 hp1
              refine ⟨_, run_beginRound m1 rfl, ?_⟩
              have r2 : R ι1 (h1.set l (.loop .busy pend1 n1 fr1 ps1 as1 bd1 d1)) (w1.putObj p.blk (.loop { state := .busy, pending := pend1, fn := fn1, tmps := tmps1, params := ps1.toArray, assign := as1, body := bd1, defers := d1' })) :=
                l1.r.setObj hob1 hp1 (by simp) (fun w' hw' => ⟨tmps1, d1', fn1, hw', m2, m3, q1, m4, m5⟩)
              have kk2 := l1.k.trans (Keep.setObj (O := .loop { state := .busy, pending := pend1, fn := fn1, tmps := tmps1, params := ps1.toArray, assign := as1, body := bd1, defers := d1' }) (o' := .loop .busy pend1 n1 fr1 ps1 as1 bd1 d1) l1.r hob1 hp1 (by simp))
              refine exec_sound (nn := nn) hX hC hm (inR := true) (ρ := some p.blk) (fun hh => by cases hh) bd hex2 l1.fr l1.ds r2 l1.tn fun ι3 a3 w3 l3 => ?_
              have hp3 := l3.k.ext _ _ hp1
              have kk3 := kk2.trans l3.k
              unfold roundEnd at he
              split at he
              · rename_i st3 pend3 n3 fr3 ps3 as3 bd3 d3 hob3
                obtain ⟨tmps3, d3', fn3, t1, t2, t3, q3, t4, t5⟩ := l3.r.obj _ _ _ hob3 hp3
                have post : ∀ (jump : Option Code) (st' : LoopState), (if jump.isNone then LoopState.ready else .done) = st' → v = .bool jump.isNone → h' = h2.set l (.loop st' jump n3 fr3 ps3 as3 bd3 d3) →
                    ∃ u w', (Instr.endRound p.blk jump).run P w3 = .ok u w' ∧ Ret ι h w v h' (.returned u) w' := by
                  rintro jump st' rfl rfl rfl
                  refine ⟨_, _, run_endRound jump t1, ι3, .bool _, l3.r.setObj hob3 hp3 (by simp) (fun w' hw' => ⟨tmps3, d3', fn3, hw', t2, t3, q3, t4, t5⟩), kk3.trans (Keep.setObj l3.r hob3 hp3 (by simp))⟩
                cases ex with
                | normal => cases he; exact post none _ rfl rfl rfl
                | ret => cases he; exact post (some .ret) _ rfl rfl rfl
                | exit id => cases he; exact post (some (.exit id)) _ rfl rfl rfl
              · cases he
            · cases he
          · cases he
        · cases he
      · cases he
    · cases he
  · cases he
def SumSound (P : Program) (S : Sums) : Prop :=
  ∀ f s, S f = some s → ∀ args h v h', s args h = some (v, h') → ∀ ι w us, R ι h w → VRs ι args us → Calls P f us.toArray w (Ret ι h w v h')
theorem callA_sound {S : Sums} (hX : ExtSound P X) (hS : SumSound P S) (hm : P.follows .mixedOrders = true) : ∀ d, CallSound P (callA P X S L d)
  | 0 => ⟨fun f args h v h' he => (by cases he), fun l args h v h' he => (by cases he)⟩
  | d + 1 => by
    have ih := callA_sound hX hS hm d
    refine ⟨fun f args h v h' he ι w us r hv => ?_, fun l args h v h' he ι w us p r hv hp => ?_⟩
    · simp only [callA] at he
      split at he
      · rename_i s hs; exact hS f s hs args h v h' he ι w us r hv
      · exact fnA_sound hX ih hm he r hv
    · exact yieldA_sound hX ih hm he r hv hp
end Go.Abs

/- Whole numbers, reckoned fast. No condition. -/
namespace Go.Abs
noncomputable def topK (k : IntKind) : Nat := IntKind.rec (motive := fun _ => Nat) 128 32768 2147483648 9223372036854775808 256 65536 4294967296 18446744073709551616 k
noncomputable def fullK (k : IntKind) : Nat := IntKind.rec (motive := fun _ => Nat) 256 65536 4294967296 18446744073709551616 256 65536 4294967296 18446744073709551616 k
noncomputable def bitsK (k : IntKind) : Nat := IntKind.rec (motive := fun _ => Nat) 8 16 32 64 8 16 32 64 k
noncomputable def numK (k : IntKind) : Nat := IntKind.rec (motive := fun _ => Nat) 0 1 2 3 4 5 6 7 k
theorem numK_inj {k l : IntKind} (h : Nat.beq (numK k) (numK l) = true) : k = l := by
  cases k <;> cases l <;> first | rfl | cases h
theorem fullK_eq (k : IntKind) : fullK k = 2 ^ k.bits := by cases k <;> rfl
theorem bitsK_eq (k : IntKind) : bitsK k = k.bits := by cases k <;> rfl
noncomputable def wrapN (k : IntKind) (m : Nat) : Int := Bool.rec (motive := fun _ => Int) (k.wrap (.ofNat m)) (.ofNat m) (Nat.blt m (topK k))
theorem wrapN_eq (k : IntKind) (m : Nat) : wrapN k m = k.wrap (.ofNat m) := by
  unfold wrapN
  cases h : Nat.blt m (topK k) with
  | false => rfl
  | true =>
    have hm : m < topK k := by simpa using h
    show Int.ofNat m = k.wrap (.ofNat m)
    cases k <;> simp only [topK] at hm <;> simp [IntKind.wrap, IntKind.bits, IntKind.signed] <;> omega
noncomputable def ifK (k l : IntKind) (x : Option AV) : Option AV := Bool.rec (motive := fun _ => Option AV) none x (Nat.beq (numK k) (numK l))
noncomputable def intN (op : BinOp) : IntKind → IntKind → Nat → Nat → Option AV :=
  BinOp.rec (motive := fun _ => IntKind → IntKind → Nat → Nat → Option AV)
    (fun k l a b => ifK k l (some (.int k (wrapN k (Nat.add a b)))))
    (fun k l a b => ifK k l (Bool.rec (motive := fun _ => Option AV) (some (.int k (k.wrap (Int.ofNat a - Int.ofNat b)))) (some (.int k (wrapN k (Nat.sub a b)))) (Nat.ble b a)))
    (fun k l a b => ifK k l (some (.int k (wrapN k (Nat.mul a b)))))
    (fun k l a b => ifK k l (Bool.rec (motive := fun _ => Option AV) (some (.int k (wrapN k (Nat.div a b)))) none (Nat.beq b 0)))
    (fun k l a b => ifK k l (Bool.rec (motive := fun _ => Option AV) (some (.int k (Int.ofNat (Nat.mod a b)))) none (Nat.beq b 0)))
    (fun k l a b => ifK k l (some (.int k (wrapN k (Nat.land (Nat.mod a (fullK k)) (Nat.mod b (fullK k)))))))
    (fun k l a b => ifK k l (some (.int k (wrapN k (Nat.lor (Nat.mod a (fullK k)) (Nat.mod b (fullK k)))))))
    (fun k l a b => ifK k l (some (.int k (wrapN k (Nat.xor (Nat.mod a (fullK k)) (Nat.mod b (fullK k)))))))
    (fun k _ a b => some (.int k (wrapN k (Nat.mul a (Nat.pow 2 (Nat.min b (bitsK k)))))))
    (fun k _ a b => some (.int k (Int.ofNat (Nat.div a (Nat.pow 2 (Nat.min b (bitsK k)))))))
    (fun k l a b => ifK k l (some (.int k (wrapN k (Nat.land (Nat.mod a (fullK k)) (Nat.sub (Nat.sub (fullK k) 1) (Nat.mod b (fullK k))))))))
    (fun k l a b => ifK k l (some (.bool (Nat.beq a b))))
    (fun k l a b => ifK k l (some (.bool (Bool.not (Nat.beq a b)))))
    (fun k l a b => ifK k l (some (.bool (Nat.ble (Nat.succ a) b))))
    (fun k l a b => ifK k l (some (.bool (Nat.ble a b))))
    (fun k l a b => ifK k l (some (.bool (Nat.ble (Nat.succ b) a))))
    (fun k l a b => ifK k l (some (.bool (Nat.ble b a)))) op
theorem ifK_spec {k l : IntKind} {x : Option AV} {r : AV} (h : ifK k l x = some r) : k = l ∧ x = some r := by
  unfold ifK at h
  cases hb : Nat.beq (numK k) (numK l) with
  | false => rw [hb] at h; cases h
  | true => rw [hb] at h; exact ⟨numK_inj hb, h⟩
theorem bv_ofNat (n a : Nat) : BitVec.ofInt n (Int.ofNat a) = BitVec.ofNat n a := by
  apply BitVec.eq_of_toNat_eq; simp
theorem intN_sound {_P : Program} {op : BinOp} {t : TypeId} {k l : IntKind} {a b : Nat} {r : AV} (h : intN op k l a b = some r) : semV (binOp op t (.int k (.ofNat a)) (.int l (.ofNat b))) = some r := by
  cases op
  case shl =>
    simp only [intN] at h; cases h
    have e0 : binOp .shl t (.int k (.ofNat a)) (.int l (.ofNat b)) = Op.shift .shl k (.ofNat a) l (.ofNat b) := rfl
    have e1 : Op.shift .shl k (.ofNat a) l (.ofNat b) = .pure (.int k (k.wrap (Int.ofNat a * 2 ^ (min b k.bits)))) := by
      unfold Op.shift
      rw [if_neg (by simp)]; rfl
    rw [e0, e1, wrapN_eq, bitsK_eq]
    have e2 : Int.ofNat (Nat.mul a (Nat.pow 2 (Nat.min b k.bits))) = Int.ofNat a * 2 ^ (min b k.bits) := by
      show ((a * 2 ^ (min b k.bits) : Nat) : Int) = (a : Int) * 2 ^ (min b k.bits)
      simp
    rw [e2]; rfl
  case shr =>
    simp only [intN] at h; cases h
    have e0 : binOp .shr t (.int k (.ofNat a)) (.int l (.ofNat b)) = Op.shift .shr k (.ofNat a) l (.ofNat b) := rfl
    have e1 : Op.shift .shr k (.ofNat a) l (.ofNat b) = .pure (.int k ((Int.ofNat a).fdiv (2 ^ (min b k.bits)))) := by
      unfold Op.shift
      rw [if_neg (by simp)]; rfl
    rw [e0, e1, bitsK_eq]
    have e2 : (Int.ofNat a).fdiv (2 ^ (min b k.bits)) = Int.ofNat (Nat.div a (Nat.pow 2 (Nat.min b k.bits))) := by
      rw [Int.fdiv_eq_ediv_of_nonneg _ (Int.le_of_lt (Int.pow_pos (by decide)))]
      show (a : Int) / 2 ^ (min b k.bits) = ((a / 2 ^ (min b k.bits) : Nat) : Int)
      simp
    rw [e2]; rfl
  all_goals
    simp only [intN] at h
    obtain ⟨hk, h2⟩ := ifK_spec h
    clear h
    subst hk
  case add => cases h2; rw [wrapN_eq]; show semV (if k ≠ k then _ else _) = _; rw [if_neg (by simp)]; rfl
  case mul => cases h2; rw [wrapN_eq]; show semV (if k ≠ k then _ else _) = _; rw [if_neg (by simp)]; rfl
  case sub =>
    show semV (if k ≠ k then _ else _) = _
    rw [if_neg (by simp)]
    cases hb : Nat.ble b a with
    | false => rw [hb] at h2; cases h2; rfl
    | true =>
      rw [hb] at h2; cases h2
      rw [wrapN_eq]
      have hle := Nat.le_of_ble_eq_true hb
      show some (AV.int k (k.wrap (Int.ofNat a - Int.ofNat b))) = _
      congr 3
      simp; omega
  case quo =>
    show semV (if k ≠ k then _ else _) = _
    rw [if_neg (by simp)]
    cases hb : Nat.beq b 0 with
    | true => rw [hb] at h2; cases h2
    | false =>
      rw [hb] at h2; cases h2
      rw [wrapN_eq]
      have hb0 : ¬ (Int.ofNat b = 0) := fun e => by
        have : b = 0 := Int.ofNat.inj e
        subst this; cases hb
      show semV (Op.intDiv _ _ _ _) = _
      simp only [Op.intDiv, if_neg hb0]
      rfl
  case rem =>
    show semV (if k ≠ k then _ else _) = _
    rw [if_neg (by simp)]
    cases hb : Nat.beq b 0 with
    | true => rw [hb] at h2; cases h2
    | false =>
      rw [hb] at h2; cases h2
      have hb0 : ¬ (Int.ofNat b = 0) := fun e => by
        have : b = 0 := Int.ofNat.inj e
        subst this; cases hb
      show semV (Op.intDiv _ _ _ _) = _
      simp only [Op.intDiv, if_neg hb0]
      rfl
  case and =>
    cases h2; rw [wrapN_eq]; show semV (if k ≠ k then _ else _) = _; rw [if_neg (by simp)]
    show some (AV.int k (k.wrap ((BitVec.ofInt k.bits (Int.ofNat a) &&& BitVec.ofInt k.bits (Int.ofNat b)).toNat : Int))) = _
    rw [bv_ofNat, bv_ofNat, BitVec.toNat_and, BitVec.toNat_ofNat, BitVec.toNat_ofNat, fullK_eq]; rfl
  case or =>
    cases h2; rw [wrapN_eq]; show semV (if k ≠ k then _ else _) = _; rw [if_neg (by simp)]
    show some (AV.int k (k.wrap ((BitVec.ofInt k.bits (Int.ofNat a) ||| BitVec.ofInt k.bits (Int.ofNat b)).toNat : Int))) = _
    rw [bv_ofNat, bv_ofNat, BitVec.toNat_or, BitVec.toNat_ofNat, BitVec.toNat_ofNat, fullK_eq]; rfl
  case xor =>
    cases h2; rw [wrapN_eq]; show semV (if k ≠ k then _ else _) = _; rw [if_neg (by simp)]
    show some (AV.int k (k.wrap ((BitVec.ofInt k.bits (Int.ofNat a) ^^^ BitVec.ofInt k.bits (Int.ofNat b)).toNat : Int))) = _
    rw [bv_ofNat, bv_ofNat, BitVec.toNat_xor, BitVec.toNat_ofNat, BitVec.toNat_ofNat, fullK_eq]; rfl
  case andNot =>
    cases h2; rw [wrapN_eq]; show semV (if k ≠ k then _ else _) = _; rw [if_neg (by simp)]
    show some (AV.int k (k.wrap ((BitVec.ofInt k.bits (Int.ofNat a) &&& ~~~ BitVec.ofInt k.bits (Int.ofNat b)).toNat : Int))) = _
    rw [bv_ofNat, bv_ofNat, BitVec.toNat_and, BitVec.toNat_not, BitVec.toNat_ofNat, BitVec.toNat_ofNat, fullK_eq]; rfl
  all_goals
    cases h2
    show semV (if k ≠ k then _ else _) = _
    rw [if_neg (by simp)]
  case eql =>
    show some (AV.bool (Int.ofNat a == Int.ofNat b)) = _
    congr 2; rw [Bool.eq_iff_iff]; simp; omega
  case neq =>
    show some (AV.bool (!(Int.ofNat a == Int.ofNat b))) = some (AV.bool (!(Nat.beq a b)))
    have : (Int.ofNat a == Int.ofNat b) = Nat.beq a b := by rw [Bool.eq_iff_iff]; simp; omega
    rw [this]
  case lss =>
    show some (AV.bool (decide (Int.ofNat a < Int.ofNat b))) = _
    congr 2; rw [Bool.eq_iff_iff]; simp; omega
  case leq =>
    show some (AV.bool (decide (Int.ofNat a ≤ Int.ofNat b))) = _
    congr 2; rw [Bool.eq_iff_iff]; simp
  case gtr =>
    show some (AV.bool (decide (Int.ofNat a > Int.ofNat b))) = _
    congr 2; rw [Bool.eq_iff_iff]; simp; omega
  case geq =>
    show some (AV.bool (decide (Int.ofNat a ≥ Int.ofNat b))) = _
    congr 2; rw [Bool.eq_iff_iff]; simp
end Go.Abs
