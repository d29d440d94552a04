/- What a call does to a small heap, said of a greater one. No condition. -/
import Derived.Test.YtkihpcjfhilgcaaGreatZ07
import Derived.Test.YtkihpcjfhilgcaaGreatZ09
namespace Go.Abs
def OEq : AObj → AObj → Prop
  | .cells n c, .cells m c' => n = m ∧ ∀ i, i < n → c.at i = c'.at i
  | a, b => a = b
theorem OEq.refl (a : AObj) : OEq a a := by cases a <;> first | exact ⟨rfl, fun _ _ => rfl⟩ | rfl
theorem OEq.symm {a b : AObj} (h : OEq a b) : OEq b a := by
  cases a <;> cases b <;> first
    | (obtain ⟨rfl, h2⟩ := h; exact ⟨rfl, fun i hi => (h2 i hi).symm⟩)
    | exact Eq.symm h
theorem OEq.trans {a b c : AObj} (h : OEq a b) (h' : OEq b c) : OEq a c := by
  cases a <;> cases b <;> cases c <;> first
    | (obtain ⟨rfl, h2⟩ := h; obtain ⟨rfl, h4⟩ := h'; exact ⟨rfl, fun i hi => (h2 i hi).trans (h4 i hi)⟩)
    | (cases h; exact h')
    | (cases h; done)
    | (cases h'; done)
theorem OEq.rw {a b : AObj} (h : OEq a b) : a.rw = b.rw := by
  cases a <;> cases b <;> first
    | rfl
    | cases h
theorem OR.eqv {ι : Io} {p : Pl} {w : World} {a b : AObj} (h : OEq a b) (hb : OR ι p w b) : OR ι p w a := by
  cases a <;> cases b <;> first
    | (obtain ⟨rfl, h2⟩ := h
       obtain ⟨g1, g2, g3⟩ := hb
       exact ⟨g1, g2, fun i v hi hv => g3 i v hi ((h2 i hi).symm.trans hv)⟩)
    | (cases h; exact hb)
    | (cases h; done)
theorem H.obj_at {h : H} {b : Nat} {o : AObj} (hb : h.obj b = some o) : h.t.at b = some o := by
  unfold H.obj at hb
  split at hb
  · cases hb
  · exact hb
theorem H.obj_of_at {h h' : H} {b : Nat} (e : h'.t.at b = h.t.at b) : h'.obj b = h.obj b := by unfold H.obj; rw [e]
theorem Ret.frame {ι : Io} {h h0 h1 h' : H} {w w' : World} {v : AV} {e : Ending} (r : R ι h w) (hn0 : h0.next = h.next) (hsub : ∀ b o, h0.obj b = some o → ∃ o', h.obj b = some o' ∧ OEq o o')
    (ret : Ret ι h0 w v h1 e w') (hn' : h'.next = h1.next)
    (hold : ∀ b, b < h.next → h'.t.at b = h.t.at b ∨ (h0.t.at b ≠ h1.t.at b ∧ ∀ o, h'.obj b = some o → ∃ o', h1.obj b = some o' ∧ OEq o o'))
    (hkeep : ∀ b o0, b < h.next → h0.obj b = some o0 → h'.t.at b = h.t.at b → ∃ o1, h1.obj b = some o1 ∧ OEq o0 o1)
    (hnew : ∀ b o, h.next ≤ b → h'.obj b = some o → ∃ o', h1.obj b = some o' ∧ OEq o o') : Ret ι h w v h' e w' := by
  cases e with
  | returned u =>
    obtain ⟨ι', hv, r1, k⟩ := ret
    have claim : ∀ b o, h'.obj b = some o → (∃ o', h1.obj b = some o' ∧ OEq o o') ∨ (b < h.next ∧ h0.obj b = none ∧ h.obj b = some o) := by
      intro b o ho
      rcases Nat.lt_or_ge b h.next with hb | hb
      · rcases hold b hb with he | ⟨_, he⟩
        · have hbo : h.obj b = some o := (H.obj_of_at he).symm.trans ho
          cases h0b : h0.obj b with
          | none => exact .inr ⟨hb, rfl, hbo⟩
          | some o0 =>
            obtain ⟨o1, g1, g2⟩ := hkeep b o0 hb h0b he
            obtain ⟨o', g3, g4⟩ := hsub b o0 h0b
            rw [hbo] at g3; cases g3
            exact .inl ⟨o1, g1, g4.symm.trans g2⟩
        · exact .inl (he o ho)
      · exact .inl (hnew b o hb ho)
    have real : ∀ b p, b < h.next → ι' b = some p → ι b = some p := by
      intro b p hb hp
      cases hι : ι b with
      | none => rw [(k.unreal b (by omega) hι).1] at hp; cases hp
      | some q => rw [k.ext _ _ hι] at hp; exact hp
    have apart : ∀ b p, ι b = some p → h0.obj b = none → (∃ o, h.obj b = some o) → ∀ b1 p1 o1, ι b1 = some p1 → h0.obj b1 = some o1 → p1.blk ≠ p.blk := by
      rintro b p hp h0b ⟨o, ho⟩ b1 p1 o1 hp1 ho1 he
      obtain ⟨o1', g1, _⟩ := hsub b1 o1 ho1
      have := r.inj b1 b _ _ p1 p g1 ho hp1 hp he
      subst this; rw [ho1] at h0b; cases h0b
    refine ⟨ι', hv, ⟨fun b o p h2 h3 => ?_, fun b b' o o' p p' h2 h2' h3 h3' he => ?_, fun b hb => r1.fresh b (hn' ▸ hb), r1.bound, fun b hb => ?_⟩, ?_⟩
    · rcases claim b o h2 with ⟨o', g1, g2⟩ | ⟨g1, g2, g3⟩
      · exact (r1.obj b o' p g1 h3).eqv g2
      · have hp := real b p g1 h3
        exact (r.obj b o p g3 hp).move k.ext (k.frame p.blk (r.bound b p hp) fun b1 p1 o1 q1 q2 _ => apart b p hp g2 ⟨o, g3⟩ b1 p1 o1 q1 q2)
    · have mixed : ∀ b b' o o' p p', (∃ o1, h1.obj b = some o1 ∧ OEq o o1) → (b' < h.next ∧ h0.obj b' = none ∧ h.obj b' = some o') → ι' b = some p → ι' b' = some p' → p.blk = p'.blk → False := by
        rintro b b' o o' p p' ⟨o1, g1, g2⟩ ⟨f1, f2, f3⟩ hp hp' he
        have hp0 := real b' p' f1 hp'
        obtain ⟨b0, p0, o0, q1, q2, _, q4⟩ := k.own b p o1 hp g1 (he ▸ r.bound b' p' hp0)
        exact apart b' p' hp0 f2 ⟨o', f3⟩ b0 p0 o0 q1 q2 (q4.trans he)
      rcases claim b o h2 with c1 | c1 <;> rcases claim b' o' h2' with c2 | c2
      · obtain ⟨o1, g1, _⟩ := c1
        obtain ⟨o2, f1, _⟩ := c2
        exact r1.inj b b' _ _ p p' g1 f1 h3 h3' he
      · exact (mixed b b' o o' p p' c1 c2 h3 h3' he).elim
      · exact (mixed b' b o' o p' p c2 c1 h3' h3 he.symm).elim
      · exact r.inj b b' _ _ p p' c1.2.2 c2.2.2 (real b p c1.1 h3) (real b' p' c2.1 h3') he
    · cases hb' : h'.obj b with
      | none => rfl
      | some o =>
        rcases claim b o hb' with ⟨o', g1, _⟩ | ⟨g1, _, _⟩
        · rw [r1.wf b (hn' ▸ hb)] at g1; cases g1
        · have := k.next; rw [hn0, ← hn'] at this; omega
    · refine ⟨k.ext, by rw [← hn0, hn']; exact k.next, fun b hb hn => ⟨(k.unreal b (by omega) hn).1, ?_⟩, fun b p o h3 h2 hlt => ?_, k.os, k.tape, k.output, k.size, fun j hj ho => ?_⟩
      · rcases hold b hb with he | ⟨he, _⟩
        · exact he
        · exact (he (k.unreal b (by omega) hn).2.symm).elim
      · rcases claim b o h2 with ⟨o', g1, g2⟩ | ⟨g1, g2, g3⟩
        · obtain ⟨b0, p0, o0, q1, q2, q3, q4⟩ := k.own b p o' h3 g1 hlt
          obtain ⟨o0', f1, f2⟩ := hsub b0 o0 q2
          exact ⟨b0, p0, o0', q1, f1, fun hr => f2.rw ▸ q3 (g2.rw ▸ hr), q4⟩
        · exact ⟨b, p, o, real b p g1 h3, g3, id, rfl⟩
      · refine k.frame j hj fun b p o q1 q2 q3 => ?_
        obtain ⟨o', f1, f2⟩ := hsub b o q2
        exact ho b p o' q1 f1 (f2.rw ▸ q3)
  | _ => exact ret.elim
noncomputable def ι0 : Io := fun _ => none
noncomputable def H0 : H := ⟨.nil, 0⟩
theorem H0.obj (b : Nat) : H0.obj b = none := by unfold H.obj H0; simp [Tr.at_nil]
theorem R.empty (w : World) : R ι0 H0 w :=
  ⟨fun b o p h => by rw [H0.obj] at h; (cases h), fun b b' o o' p p' h => by rw [H0.obj] at h; (cases h), fun _ _ => rfl, fun b p h => (by cases h), fun b _ => H0.obj b⟩
def AV.bare : AV → Bool
  | .bool _ => true
  | .int _ _ => true
  | .str _ => true
  | .pnil => true
  | .snil => true
  | .mnil => true
  | .fnil => true
  | .inil => true
  | _ => false
theorem VR.bare {ι ι' : Io} {v : AV} {u : Value} (hb : v.bare = true) (h : VR ι v u) : VR ι' v u := by
  cases h <;> first | (cases hb; done) | constructor
def AV.bares : AV → Bool
  | .tup vs => vs.all AV.bare
  | v => v.bare
theorem VR.bares {ι ι' : Io} {v : AV} {u : Value} (hb : v.bares = true) (h : VR ι v u) : VR ι' v u := by
  cases h with
  | tup h1 h2 =>
    rename_i cs us
    refine .tup h1 fun i a u g1 g2 => (h2 i a u g1 g2).bare ?_
    simp only [AV.bares, List.all_eq_true] at hb
    exact hb a (List.mem_of_getElem? g1)
  | _ => first | (refine VR.bare (ι := ι) hb ?_; constructor <;> assumption) | (cases hb; done) | constructor
theorem Keep.same {ι ι1 : Io} {h h1 : H} {w w' : World} (r : R ι h w) (k : Keep ι0 ι1 H0 h1 w w') : R ι h w' ∧ Keep ι ι h h w w' := by
  have hf : ∀ j, j < w.heap.size → w'.heap[j]? = w.heap[j]? := fun j hj => k.frame j hj fun b p o hb => by cases hb
  refine ⟨⟨fun b o p h2 h3 => (r.obj b o p h2 h3).move (.refl ι) (hf p.blk (r.bound b p h3)), r.inj, r.fresh, fun b p h3 => Nat.lt_of_lt_of_le (r.bound b p h3) k.size, r.wf⟩, ?_⟩
  exact ⟨.refl ι, Nat.le_refl _, fun b _ hn => ⟨hn, rfl⟩, fun b p o h1 h2 _ => ⟨b, p, o, h1, h2, id, rfl⟩, k.os, k.tape, k.output, k.size, fun j hj _ => hf j hj⟩
theorem Ret.pure {ι : Io} {h h1 : H} {w w' : World} {v : AV} {e : Ending} (r : R ι h w) (hv : v.bares = true) (ret : Ret ι0 H0 w v h1 e w') : Ret ι h w v h e w' := by
  cases e with
  | returned u =>
    obtain ⟨ι1, g1, g2, g3⟩ := ret
    obtain ⟨g4, g5⟩ := g3.same r
    exact ⟨ι, g1.bares hv, g4, g5⟩
  | _ => exact ret.elim
theorem Ret.row {ι : Io} {h h1 : H} {w w' : World} {b n : Nat} {c : Tr AV} {e : Ending} (r : R ι h w) (hb : h1.obj b = some (.cells n c)) (hc : ∀ i v, i < n → c.at i = some v → v.bare = true) (hn : 0 < n)
    (ret : Ret ι0 H0 w (.slice b 0 n n 1 false) h1 e w') : Ret ι h w (.slice h.next 0 n n 1 false) (h.new (.cells n c)) e w' := by
  cases e with
  | returned u =>
    obtain ⟨ι1, g1, g2, g3⟩ := ret
    obtain ⟨g4, g5⟩ := g3.same r
    cases g1 with | slice q1 q2 q3 q4 q5 => ?_
    rename_i ad rcap
    obtain ⟨p, hp, rfl, hpe⟩ := q4 (by omega)
    have hge : w.heap.size ≤ p.blk := by
      rcases Nat.lt_or_ge p.blk w.heap.size with h2 | h2
      · obtain ⟨b0, p0, o0, hh, _⟩ := g3.own b p _ hp hb h2; cases hh
      · exact h2
    have hfr := r.fresh h.next (Nat.le_refl _)
    have hext : Ext ι (upd ι h.next p) := .upd _ hfr
    have hold : ∀ d q, d ≠ h.next → upd ι h.next p d = some q → ι d = some q := fun d q hd hq => by rwa [upd_other ι p hd] at hq
    refine ⟨upd ι h.next p, .slice q1 q2 q3 (fun _ => ⟨p, upd_same _ _ _, rfl, hpe⟩) (fun _ => ⟨p, upd_same _ _ _⟩), ⟨fun d od q h2 h3 => ?_, fun d d' od od' q q' h2 h2' h3 h3' he => ?_, fun d hd => ?_, fun d q h3 => ?_, fun d hd => ?_⟩, ?_⟩
    · rw [H.obj_new _ _ _ (by simp)] at h2
      split at h2
      · rename_i hd; subst hd; cases h2; rw [upd_same] at h3; cases h3
        obtain ⟨f1, f2, f3⟩ := g2.obj b _ p hb hp
        exact ⟨f1, f2, fun i v hi hv => let ⟨u, a1, a2⟩ := f3 i v hi hv; ⟨u, a1, a2.bare (hc i v hi hv)⟩⟩
      · rename_i hd
        have hq := hold d q hd h3
        exact (g4.obj d od q h2 hq).move hext rfl
    · rw [H.obj_new _ _ _ (by simp)] at h2 h2'
      by_cases hd : d = h.next
      · by_cases hd' : d' = h.next
        · rw [hd, hd']
        · rw [hd, upd_same] at h3; cases h3
          rw [if_neg hd'] at h2'
          have := r.bound d' q' (hold d' q' hd' h3')
          omega
      · rw [if_neg hd] at h2
        by_cases hd' : d' = h.next
        · rw [hd', upd_same] at h3'; cases h3'
          have := r.bound d q (hold d q hd h3)
          omega
        · rw [if_neg hd'] at h2'
          exact r.inj d d' od od' q q' h2 h2' (hold d q hd h3) (hold d' q' hd' h3') he
    · have : h.next + 1 ≤ d := hd
      rw [upd_other ι _ (by omega)]; exact r.fresh d (by omega)
    · by_cases hd : d = h.next
      · rw [hd, upd_same] at h3; cases h3; exact g2.bound b p hp
      · exact g4.bound d q (hold d q hd h3)
    · have : h.next + 1 ≤ d := hd
      rw [H.obj_new _ _ _ (by simp), if_neg (by omega)]; exact r.wf d (by omega)
    · refine ⟨hext, by show h.next ≤ h.next + 1; omega, fun d hd hn => ⟨by rw [upd_other ι _ (by omega)]; exact hn, ?_⟩, fun d q od h3 h2 hlt => ?_, g5.os, g5.tape, g5.output, g5.size, g5.frame⟩
      · simp only [H.new, Tr.at_put]; rw [if_neg (by omega)]
      · rw [H.obj_new _ _ _ (by simp)] at h2
        by_cases hd : d = h.next
        · rw [hd, upd_same] at h3; cases h3; omega
        · rw [if_neg hd] at h2
          exact ⟨d, q, od, hold d q hd h3, h2, id, rfl⟩
  | _ => exact ret.elim
end Go.Abs

/- States written out, and a run that is cut at such states. No condition. -/
namespace Go.Abs
def intEq : Int → Int → Bool
  | .ofNat a, .ofNat b => Nat.beq a b
  | .negSucc a, .negSucc b => Nat.beq a b
  | _, _ => false
theorem intEq_eq {a b : Int} (h : intEq a b = true) : a = b := by
  unfold intEq at h
  split at h <;> first | (rw [Nat.eq_of_beq_eq_true h]) | cases h
theorem intEq_refl (a : Int) : intEq a a = true := by cases a <;> simp [intEq]
noncomputable def kindEq (k l : IntKind) : Bool := Nat.beq (numK k) (numK l)
def listEq (f : AV → AV → Bool) : List AV → List AV → Bool
  | [], [] => true
  | x :: a, y :: b => f x y && listEq f a b
  | _, _ => false
theorem listEq_eq {f : AV → AV → Bool} (hf : ∀ a b, f a b = true → a = b) : ∀ {l m : List AV}, listEq f l m = true → l = m
  | [], [], _ => rfl
  | x :: a, y :: b, h => by
    simp only [listEq, Bool.and_eq_true] at h
    rw [hf _ _ h.1, listEq_eq hf h.2]
  | [], _ :: _, h => by cases h
  | _ :: _, [], h => by cases h
def boolEq : Bool → Bool → Bool
  | true, true => true
  | false, false => true
  | _, _ => false
theorem boolEq_eq {a b : Bool} (h : boolEq a b = true) : a = b := by cases a <;> cases b <;> first | rfl | cases h
def fnEq : Fn → Fn → Bool
  | .func f, .func g => Nat.beq f g
  | _, _ => false
theorem fnEq_eq {a b : Fn} (h : fnEq a b = true) : a = b := by
  unfold fnEq at h
  split at h
  · rw [Nat.eq_of_beq_eq_true h]
  · cases h
noncomputable def eqV : Nat → AV → AV → Bool
  | 0, _, _ => false
  | _ + 1, .bool a, .bool b => boolEq a b
  | _ + 1, .int k a, .int l b => kindEq k l && intEq a b
  | _ + 1, .ptr a b, .ptr c d => Nat.beq a c && Nat.beq b d
  | _ + 1, .pnil, .pnil => true
  | _ + 1, .slice a b c d e f, .slice a' b' c' d' e' f' => Nat.beq a a' && Nat.beq b b' && Nat.beq c c' && Nat.beq d d' && Nat.beq e e' && boolEq f f'
  | _ + 1, .snil, .snil => true
  | _ + 1, .map a, .map b => Nat.beq a b
  | _ + 1, .mnil, .mnil => true
  | n + 1, .func f a b, .func g c d => fnEq f g && listEq (eqV n) a c && listEq (eqV n) b d
  | _ + 1, .fnil, .fnil => true
  | n + 1, .iface t a, .iface s b => Nat.beq t s && eqV n a b
  | _ + 1, .inil, .inil => true
  | n + 1, .agg a, .agg b => listEq (eqV n) a b
  | n + 1, .tup a, .tup b => listEq (eqV n) a b
  | _ + 1, _, _ => false
theorem eqV_eq : ∀ n a b, eqV n a b = true → a = b
  | 0, _, _, h => by cases h
  | n + 1, a, b, h => by
    cases a <;> cases b <;> simp only [eqV, Bool.and_eq_true, reduceCtorEq] at h <;> first
      | rfl
      | (rw [boolEq_eq h])
      | (rw [numK_inj h.1, intEq_eq h.2])
      | (rw [Nat.eq_of_beq_eq_true h.1, Nat.eq_of_beq_eq_true h.2])
      | (obtain ⟨⟨⟨⟨⟨h1, h2⟩, h3⟩, h4⟩, h5⟩, h6⟩ := h; rw [Nat.eq_of_beq_eq_true h1, Nat.eq_of_beq_eq_true h2, Nat.eq_of_beq_eq_true h3, Nat.eq_of_beq_eq_true h4, Nat.eq_of_beq_eq_true h5, boolEq_eq h6])
      | (rw [Nat.eq_of_beq_eq_true h])
      | (obtain ⟨⟨h1, h2⟩, h3⟩ := h; rw [fnEq_eq h1, listEq_eq (eqV_eq n) h2, listEq_eq (eqV_eq n) h3])
      | (rw [Nat.eq_of_beq_eq_true h.1, eqV_eq n _ _ h.2])
      | (rw [listEq_eq (eqV_eq n) h])
      | cases h
noncomputable def neV : AV → AV → Bool
  | .int k a, .int l b => !(kindEq k l && intEq a b)
  | .bool a, .bool b => !boolEq a b
  | .ptr a b, .ptr c d => !(Nat.beq a c && Nat.beq b d)
  | .slice a b c d e f, .slice a' b' c' d' e' f' => !(Nat.beq a a' && Nat.beq b b' && Nat.beq c c' && Nat.beq d d' && Nat.beq e e' && boolEq f f')
  | .snil, .slice .. => true
  | .slice .., .snil => true
  | .pnil, .ptr .. => true
  | .ptr .., .pnil => true
  | _, _ => false
theorem neV_ne {a b : AV} (h : neV a b = true) : a ≠ b := by
  rintro rfl
  cases a <;> simp [neV, kindEq, intEq_refl] at h
  · rename_i b; cases b <;> simp [boolEq] at h
  · rename_i f; cases f <;> simp [boolEq] at h
inductive LO where
  | c (n : Nat) (l : List AV)
  | w (l : List (Nat × AV))
  | m (es : List Ent) (cl : Nat)
  | d
def z64 : AV := .int .u64 (.ofNat 0)
def z16 : N16 (Option AV) := .mk (some z64) (some z64) (some z64) (some z64) (some z64) (some z64) (some z64) (some z64) (some z64) (some z64) (some z64) (some z64) (some z64) (some z64) (some z64) (some z64)
def z256 : A2 AV := .mk (some z16) (some z16) (some z16) (some z16) (some z16) (some z16) (some z16) (some z16) (some z16) (some z16) (some z16) (some z16) (some z16) (some z16) (some z16) (some z16)
def z4096 : Tr AV := .mk z256 (some (.mk (some (.mk none (some z256) (some z256) (some z256) (some z256) (some z256) (some z256) (some z256) (some z256) (some z256) (some z256) (some z256) (some z256) (some z256) (some z256) (some z256)))
  none none none none none none none none none none none none none none none)) .nil
def isZ : Option AV → Bool
  | some (.int .u64 (.ofNat n)) => Nat.beq n 0
  | _ => false
theorem isZ_eq {o : Option AV} (h : isZ o = true) : o = some z64 := by
  unfold isZ at h
  split at h
  · rw [Nat.eq_of_beq_eq_true h]; rfl
  · cases h
noncomputable def allZ : Nat → Bool
  | 0 => true
  | n + 1 => isZ (z4096.at n) && allZ n
set_option maxRecDepth 100000 in
theorem allZ_4096 : allZ 4096 = true := by kernel_rfl
theorem allZ_at : ∀ {n i : Nat}, allZ n = true → i < n → z4096.at i = some z64
  | 0, _, _, h => by omega
  | n + 1, i, h, hi => by
    simp only [allZ, Bool.and_eq_true] at h
    by_cases e : i = n
    · rw [e]; exact isZ_eq h.1
    · exact allZ_at h.2 (by omega)
theorem z4096_at {i : Nat} (hi : i < 4096) : z4096.at i = some z64 := allZ_at allZ_4096 hi
noncomputable def putAt (c : Tr AV) : List (Nat × AV) → Tr AV
  | [] => c
  | (i, v) :: r => putAt (c.put i v) r
noncomputable def LO.obj : LO → AObj
  | .c n l => .cells n (ofL l)
  | .w l => .cells 4096 (putAt z4096 l)
  | .m es cl => .map es cl
  | .d => .dead
def lookW : List (Nat × AV) → Nat → Option AV → Option AV
  | [], _, d => d
  | (j, v) :: r, i, d => lookW r i (bif Nat.beq i j then some v else d)
theorem putAt_at : ∀ (l : List (Nat × AV)) (c : Tr AV) (i : Nat), (putAt c l).at i = lookW l i (c.at i)
  | [], c, i => rfl
  | (j, v) :: r, c, i => by
    simp only [putAt, lookW]
    rw [putAt_at r, Tr.at_put]
    congr 1
    by_cases e : i = j
    · subst e; simp
    · have : Nat.beq i j = false := by
        cases hb : Nat.beq i j with
        | false => rfl
        | true => exact absurd (Nat.eq_of_beq_eq_true hb) e
      rw [if_neg e, this]; rfl
def LO.cell : LO → Nat → Option AV
  | .c n l, i => bif Nat.blt i n then l[i]? else none
  | .w l, i => bif Nat.blt i 4096 then lookW l i (some z64) else none
  | _, _ => none
noncomputable def chkC (c : Tr AV) (l : List AV) : Nat → Bool :=
  List.rec (motive := fun _ => Nat → Bool) (fun _ => true)
    (fun v _ ih i => (match c.at i with | some u => eqV 9 u v | none => false) && forceN (Nat.succ i) ih) l
theorem chkC_at {c : Tr AV} : ∀ {l : List AV} {i : Nat}, chkC c l i = true → ∀ j, j < l.length → c.at (i + j) = l[j]?
  | [], _, _, _, hj => by cases hj
  | v :: r, i, h, j, hj => by
    have h' : ((match c.at i with | some u => eqV 9 u v | none => false) && forceN (Nat.succ i) (chkC c r)) = true := h
    rw [forceN_eq] at h'
    simp only [Bool.and_eq_true] at h'
    cases j with
    | zero =>
      have h1 := h'.1
      split at h1
      · rename_i u hu; rw [Nat.add_zero, hu, eqV_eq 9 _ _ h1]; rfl
      · cases h1
    | succ j =>
      have := chkC_at h'.2 j (by simpa using hj)
      rw [show i + (j + 1) = Nat.succ i + j by omega, this]; rfl
def incr : Nat → List (Nat × AV) → Bool
  | _, [] => true
  | i, (j, _) :: r => Nat.ble i j && incr (Nat.succ j) r
theorem beq_ne {a b : Nat} (h : a ≠ b) : Nat.beq a b = false := by
  cases hb : Nat.beq a b with
  | false => rfl
  | true => exact absurd (Nat.eq_of_beq_eq_true hb) h
theorem lookW_lt : ∀ {l : List (Nat × AV)} {i x : Nat} {d : Option AV}, incr i l = true → x < i → lookW l x d = d
  | [], _, _, _, _, _ => rfl
  | (j, v) :: r, i, x, d, h, hx => by
    simp only [incr, Bool.and_eq_true] at h
    have hij := Nat.le_of_ble_eq_true h.1
    simp only [lookW, beq_ne (show x ≠ j by omega), cond_false]
    exact lookW_lt h.2 (by omega)
noncomputable def chkW (c : Tr AV) (k : Nat) : List (Nat × AV) → Nat → Bool :=
  Nat.rec (motive := fun _ => List (Nat × AV) → Nat → Bool) (fun _ _ => true)
    (fun _ ih l i => match l with
      | [] => isZ (c.at i) && forceN (Nat.succ i) (ih [])
      | (j, v) :: r => bif Nat.beq i j then (match c.at i with | some u => eqV 9 u v | none => false) && forceN (Nat.succ i) (ih r)
        else isZ (c.at i) && forceN (Nat.succ i) (ih l)) k
theorem chkW_at {c : Tr AV} : ∀ {k : Nat} {l : List (Nat × AV)} {i : Nat}, chkW c k l i = true → incr i l = true → ∀ j, j < k → c.at (i + j) = lookW l (i + j) (some z64)
  | 0, _, _, _, _, _, hj => by cases hj
  | k + 1, [], i, h, ho, j, hj => by
    have h' : (isZ (c.at i) && forceN (Nat.succ i) (chkW c k [])) = true := h
    rw [forceN_eq, Bool.and_eq_true] at h'
    cases j with
    | zero => exact isZ_eq h'.1
    | succ j =>
      have := chkW_at h'.2 rfl j (by omega)
      rw [show i + (j + 1) = Nat.succ i + j by omega, this]
  | k + 1, (j0, v) :: r, i, h, ho, j, hj => by
    have h' : (bif Nat.beq i j0 then (match c.at i with | some u => eqV 9 u v | none => false) && forceN (Nat.succ i) (chkW c k r) else isZ (c.at i) && forceN (Nat.succ i) (chkW c k ((j0, v) :: r))) = true := h
    have ho' := ho
    simp only [incr, Bool.and_eq_true] at ho'
    have hij := Nat.le_of_ble_eq_true ho'.1
    by_cases e : i = j0
    · subst e
      rw [show Nat.beq i i = true by simp, cond_true, forceN_eq, Bool.and_eq_true] at h'
      cases j with
      | zero =>
        have h1 := h'.1
        split at h1
        · rename_i u hu
          rw [Nat.add_zero, hu, eqV_eq 9 _ _ h1]
          simp only [lookW, show Nat.beq i i = true by simp, cond_true]
          rw [lookW_lt ho'.2 (by omega)]
        · cases h1
      | succ j =>
        have := chkW_at h'.2 ho'.2 j (by omega)
        rw [show i + (j + 1) = Nat.succ i + j by omega, this]
        simp only [lookW, beq_ne (show Nat.succ i + j ≠ i by omega), cond_false]
    · rw [beq_ne e, cond_false, forceN_eq, Bool.and_eq_true] at h'
      have ho2 : incr (Nat.succ i) ((j0, v) :: r) = true := by
        simp only [incr, Bool.and_eq_true]
        exact ⟨Nat.ble_eq_true_of_le (by omega), ho'.2⟩
      cases j with
      | zero => rw [Nat.add_zero, isZ_eq h'.1, lookW_lt ho2 (by omega)]
      | succ j =>
        have := chkW_at h'.2 ho2 j (by omega)
        rw [show i + (j + 1) = Nat.succ i + j by omega, this]
noncomputable def entEq : List Ent → List Ent → Bool
  | [], [] => true
  | a :: r, b :: s => eqV 9 a.key b.key && eqV 9 a.val b.val && Nat.beq a.born b.born && entEq r s
  | _, _ => false
theorem entEq_eq : ∀ {l m : List Ent}, entEq l m = true → l = m
  | [], [], _ => rfl
  | a :: r, b :: s, h => by
    simp only [entEq, Bool.and_eq_true] at h
    obtain ⟨⟨⟨h1, h2⟩, h3⟩, h4⟩ := h
    obtain ⟨ak, av, ab⟩ := a
    obtain ⟨bk, bv, bb⟩ := b
    simp only at h1 h2 h3
    rw [entEq_eq h4, eqV_eq 9 _ _ h1, eqV_eq 9 _ _ h2, Nat.eq_of_beq_eq_true h3]
  | [], _ :: _, h => by cases h
  | _ :: _, [], h => by cases h
noncomputable def chkO (o : Option AObj) (lo : LO) : Bool :=
  match lo with
  | .c n l => (match o with | some (.cells m c) => Nat.beq m n && Nat.beq l.length n && chkC c l 0 | _ => false)
  | .w l => (match o with | some (.cells m c) => Nat.beq m 4096 && (incr 0 l && chkW c 4096 l 0) | _ => false)
  | .m es cl => (match o with | some (.map es' cl') => Nat.beq cl' cl && entEq es' es | _ => false)
  | .d => (match o with | some .dead => true | _ => false)
theorem chkO_spec {o : Option AObj} {lo : LO} (h : chkO o lo = true) : ∃ ob, o = some ob ∧ OEq ob lo.obj ∧ (∀ i, lo.cell i ≠ none → ∃ n c, ob = .cells n c ∧ c.at i = lo.cell i) := by
  unfold chkO at h
  split at h
  · rename_i n l
    split at h
    · rename_i m c
      simp only [Bool.and_eq_true] at h
      obtain ⟨⟨h1, h2⟩, h3⟩ := h
      obtain rfl := Nat.eq_of_beq_eq_true h1
      have hl : l.length = m := Nat.eq_of_beq_eq_true h2
      have hat : ∀ i, i < m → c.at i = l[i]? := fun i hi => by
        have := chkC_at h3 i (by omega); rwa [Nat.zero_add] at this
      refine ⟨_, rfl, ⟨rfl, fun i hi => ?_⟩, fun i hi => ⟨m, c, rfl, ?_⟩⟩
      · rw [hat i hi]
        unfold ofL
        rw [at_puts, if_pos ⟨Nat.zero_le _, by omega⟩]; rfl
      · simp only [LO.cell] at hi ⊢
        cases hb : Nat.blt i m with
        | false => rw [hb] at hi; exact (hi rfl).elim
        | true => rw [cond_true]; exact hat i (by simpa using hb)
    · cases h
  · rename_i l
    split at h
    · rename_i m c
      simp only [Bool.and_eq_true] at h
      obtain ⟨h1, h2, h3⟩ := h
      obtain rfl := Nat.eq_of_beq_eq_true h1
      have hat : ∀ i, i < 4096 → c.at i = lookW l i (some z64) := fun i hi => by
        have := chkW_at h3 h2 i hi; rwa [Nat.zero_add] at this
      refine ⟨_, rfl, ⟨rfl, fun i hi => ?_⟩, fun i hi => ⟨4096, c, rfl, ?_⟩⟩
      · rw [hat i hi, putAt_at, z4096_at hi]
      · simp only [LO.cell] at hi ⊢
        cases hb : Nat.blt i 4096 with
        | false => rw [hb] at hi; exact (hi rfl).elim
        | true => rw [cond_true]; exact hat i (by simpa using hb)
    · cases h
  · rename_i es cl
    split at h
    · rename_i es' cl'
      simp only [Bool.and_eq_true] at h
      obtain rfl := Nat.eq_of_beq_eq_true h.1
      obtain rfl := entEq_eq h.2
      exact ⟨_, rfl, rfl, fun i hi => (hi rfl).elim⟩
    · cases h
  · split at h
    · exact ⟨_, rfl, rfl, fun i hi => (hi rfl).elim⟩
    · cases h
noncomputable def diffO (a b : LO) (i : Nat) : Bool :=
  match a, b with
  | .m es cl, .m es' cl' => !(Nat.beq cl cl') || !(Nat.beq es.length es'.length)
  | .d, _ => false
  | _, .d => true
  | a, b => match a.cell i, b.cell i with
    | some u, some v => neV u v
    | _, _ => false
theorem LO.cell_obj {a : LO} {i : Nat} {v : AV} (h : a.cell i = some v) : ∃ n c, a.obj = .cells n c ∧ c.at i = some v := by
  cases a with
  | c n l =>
    simp only [LO.cell] at h
    cases hb : Nat.blt i n with
    | false => rw [hb] at h; cases h
    | true =>
      rw [hb, cond_true] at h
      refine ⟨n, _, rfl, ?_⟩
      unfold ofL
      rw [at_puts, if_pos ⟨Nat.zero_le _, by have := (List.getElem?_eq_some_iff.1 h).1; omega⟩]; simpa using h
  | w l =>
    simp only [LO.cell] at h
    cases hb : Nat.blt i 4096 with
    | false => rw [hb] at h; cases h
    | true =>
      rw [hb, cond_true] at h
      exact ⟨4096, _, rfl, by rw [putAt_at, z4096_at (by simpa using hb)]; exact h⟩
  | m es cl => cases h
  | d => cases h
theorem diffO_ne {a b : LO} {i : Nat} (h : diffO a b i = true) {o : Option AObj} (hb : chkO o b = true) : some a.obj ≠ o := by
  rintro rfl
  obtain ⟨ob, h1, h2, h3⟩ := chkO_spec hb
  cases h1
  unfold diffO at h
  split at h
  · rename_i es cl es' cl'
    have e : AObj.map es cl = .map es' cl' := h2
    cases e
    simp at h
  · cases h
  · rename_i hnd
    cases a with
    | c n l => exact absurd h2 (by intro hh; cases hh)
    | w l => exact absurd h2 (by intro hh; cases hh)
    | m es cl => exact absurd h2 (by intro hh; cases hh)
    | d => exact hnd rfl
  · split at h
    · rename_i u v hu hv
      obtain ⟨n, c, e1, e2⟩ := LO.cell_obj hu
      obtain ⟨n', c', e3, e4⟩ := h3 i (by rw [hv]; simp)
      rw [e1] at e3; cases e3
      rw [e2, hv] at e4; cases e4
      exact neV_ne h rfl
    · cases h
noncomputable def mkH : List (Nat × LO) → H → H
  | [], h => h
  | (b, o) :: r, h => mkH r (h.set b o.obj)
noncomputable def putAtK {β : Type} (l : List (Nat × AV)) (c : Tr AV) (k : Tr AV → β) : β :=
  List.rec (motive := fun _ => Tr AV → β) k (fun p _ ih c => force1 p.2 fun v => c.putK p.1 v ih) l c
theorem putAtK_eq {β : Type} (k : Tr AV → β) : ∀ (l : List (Nat × AV)) (c : Tr AV), putAtK l c k = k (putAt c l)
  | [], c => rfl
  | (i, v) :: r, c => by
    show force1 v (fun v => c.putK i v fun c' => putAtK r c' k) = _
    rw [force1_eq, Tr.putK_eq, putAtK_eq k r]; rfl
noncomputable def mkK {β : Type} (k : H → β) (l : List (Nat × LO)) : H → β :=
  List.rec (motive := fun _ => H → β) k (fun p _ ih h => match p.2 with
    | .c n l => forceL l fun l => putsK .nil 0 l fun c => h.setK p.1 (.cells n c) ih
    | .w l => putAtK l z4096 fun c => h.setK p.1 (.cells 4096 c) ih
    | .m es cl => h.setK p.1 (.map es cl) ih
    | .d => h.setK p.1 .dead ih) l
theorem mkK_eq {β : Type} (k : H → β) : ∀ (l : List (Nat × LO)) (h : H), mkK k l h = k (mkH l h)
  | [], h => rfl
  | (b, o) :: r, h => by
    have ih := mkK_eq k r
    cases o with
    | c n l =>
      show forceL l (fun l => putsK .nil 0 l fun c => h.setK b (.cells n c) (mkK k r)) = _
      rw [forceL_eq, putsK_eq, H.setK_eq, ih]; rfl
    | w l =>
      show putAtK l z4096 (fun c => h.setK b (.cells 4096 c) (mkK k r)) = _
      rw [putAtK_eq, H.setK_eq, ih]; rfl
    | m es cl =>
      show h.setK b (.map es cl) (mkK k r) = _
      rw [H.setK_eq, ih]; rfl
    | d =>
      show h.setK b .dead (mkK k r) = _
      rw [H.setK_eq, ih]; rfl
theorem mkH_next : ∀ (l : List (Nat × LO)) (h : H), (mkH l h).next = h.next
  | [], _ => rfl
  | (b, o) :: r, h => by simp only [mkH]; rw [mkH_next r]; rfl
theorem mkH_at : ∀ (l : List (Nat × LO)) (h : H) (b : Nat), (∃ lo, (b, lo) ∈ l ∧ (mkH l h).t.at b = some lo.obj) ∨ ((∀ lo, (b, lo) ∉ l) ∧ (mkH l h).t.at b = h.t.at b)
  | [], h, b => .inr ⟨fun _ hh => (by cases hh), rfl⟩
  | (c, o) :: r, h, b => by
    simp only [mkH]
    rcases mkH_at r (h.set c o.obj) b with ⟨lo, h1, h2⟩ | ⟨h1, h2⟩
    · exact .inl ⟨lo, List.mem_cons_of_mem _ h1, h2⟩
    · by_cases e : b = c
      · subst e
        exact .inl ⟨o, List.mem_cons_self, by rw [h2]; simp [H.set, Tr.at_put]⟩
      · refine .inr ⟨fun lo hh => ?_, by rw [h2]; simp [H.set, Tr.at_put, e]⟩
        rcases List.mem_cons.1 hh with hh | hh
        · cases hh; exact e rfl
        · exact h1 lo hh
noncomputable def chkAll (h : H) (l : List (Nat × LO)) : Bool := l.all fun p => chkO (h.t.at p.1) p.2
theorem chkAll_mem {h : H} {l : List (Nat × LO)} (hc : chkAll h l = true) {b : Nat} {lo : LO} (hm : (b, lo) ∈ l) : chkO (h.t.at b) lo = true := by
  unfold chkAll at hc
  rw [List.all_eq_true] at hc
  exact hc _ hm
noncomputable def chkOld (h1 : H) (C : List (Nat × LO × Nat)) (l : List (Nat × LO)) : Bool :=
  l.all fun p => match C.find? (fun q => Nat.beq q.1 p.1) with
    | some q => diffO p.2 q.2.1 q.2.2
    | none => chkO (h1.t.at p.1) p.2
def cOf (C : List (Nat × LO × Nat)) : List (Nat × LO) := C.map fun q => (q.1, q.2.1)
structure Seg where
  l0 : List (Nat × LO)
  n0 : Nat
  chg : List (Nat × LO × Nat)
  new : List (Nat × LO)
  n1 : Nat
  args : List AV := []
  res : AV := .tup []
def dist : List Nat → Bool
  | [] => true
  | b :: r => !memN b r && dist r
noncomputable def Seg.ok (s : Seg) (P : Program) (X : Ext0) (S : Sums) (L d : Nat) (f : FuncId) : Bool :=
  mkK (fun h0 => match callF P X S L d (.fn f) s.args h0 with
    | some (v, h1) => eqV 9 v s.res && Nat.beq h1.next s.n1 && chkAll h1 (cOf s.chg) && chkAll h1 s.new && chkOld h1 s.chg s.l0 && s.new.all (fun p => Nat.ble s.n0 p.1)
    | none => false) s.l0 ⟨.nil, s.n0⟩ && dist (s.chg.map fun q => q.1)
noncomputable def Seg.give (s : Seg) (h : H) : Option (AV × H) :=
  mkK (fun h' => some (s.res, ⟨h'.t, s.n1⟩)) (cOf s.chg ++ s.new) h
theorem dist_find : ∀ {C : List (Nat × LO × Nat)}, dist (C.map fun q => q.1) = true → ∀ {b : Nat} {lo : LO} {i : Nat}, (b, lo, i) ∈ C → C.find? (fun q => Nat.beq q.1 b) = some (b, lo, i)
  | [], _, _, _, _, h => by cases h
  | (c, o, j) :: r, hd, b, lo, i, h => by
    simp only [List.map_cons, dist, Bool.and_eq_true, Bool.not_eq_true'] at hd
    rcases List.mem_cons.1 h with e | e
    · cases e; simp [List.find?]
    · have hne : Nat.beq c b = false := by
        cases hb : Nat.beq c b with
        | false => rfl
        | true =>
          have := Nat.eq_of_beq_eq_true hb
          subst this
          have hm : memN c (r.map fun q => q.1) = true := memN_iff.2 (List.mem_map.2 ⟨_, e, rfl⟩)
          rw [hm] at hd; cases hd.1
      simp only [List.find?, hne]
      exact dist_find hd.2 e
theorem Seg.sound {s : Seg} {P : Program} {X : Ext0} {S : Sums} {L d : Nat} {f : FuncId} (hok : s.ok P X S L d f = true) (hC : CallSound P (callA P X S L d)) {ι : Io} {h h' : H} {w : World} {us : List Value} {v : AV}
    (r : R ι h w) (hv : VRs ι s.args us) (hn : h.next = s.n0) (hl : chkAll h s.l0 = true) (hg : s.give h = some (v, h')) : Calls P f us.toArray w (Ret ι h w v h') := by
  unfold Seg.ok at hok
  rw [Bool.and_eq_true, mkK_eq] at hok
  obtain ⟨hok, hdist⟩ := hok
  unfold Seg.give at hg
  rw [mkK_eq] at hg
  cases hg
  split at hok
  · rename_i v1 h1 hcall
    simp only [Bool.and_eq_true] at hok
    obtain ⟨⟨⟨⟨⟨hu, hn1⟩, hcc⟩, hcn⟩, hco⟩, hnm⟩ := hok
    have newName : ∀ b lo, (b, lo) ∈ s.new → s.n0 ≤ b := fun b lo hm => by
      rw [List.all_eq_true] at hnm
      exact Nat.le_of_ble_eq_true (hnm _ hm)
    obtain rfl := eqV_eq 9 _ _ hu
    rw [callF_eq] at hcall
    have hn1 : h1.next = s.n1 := Nat.eq_of_beq_eq_true hn1
    let h0 : H := mkH s.l0 ⟨.nil, s.n0⟩
    have hn0 : h0.next = h.next := by rw [hn]; exact mkH_next _ _
    have h0at : ∀ b, (∃ lo, (b, lo) ∈ s.l0 ∧ h0.t.at b = some lo.obj) ∨ ((∀ lo, (b, lo) ∉ s.l0) ∧ h0.t.at b = none) := fun b => by
      rcases mkH_at s.l0 ⟨.nil, s.n0⟩ b with g | ⟨g1, g2⟩
      · exact .inl g
      · exact .inr ⟨g1, by rw [Tr.at_nil] at g2; exact g2⟩
    have hsub : ∀ b o, h0.obj b = some o → ∃ o', h.obj b = some o' ∧ OEq o o' := by
      intro b o ho
      have hat := H.obj_at ho
      rcases h0at b with ⟨lo, g1, g2⟩ | ⟨_, g2⟩
      · rw [g2] at hat; cases hat
        obtain ⟨ob, q1, q2, _⟩ := chkO_spec (chkAll_mem hl g1)
        have hnd : lo.obj ≠ .dead := by
          intro e
          have : h0.obj b = none := by unfold H.obj; rw [g2, e]
          rw [this] at ho; cases ho
        have hob : ob ≠ .dead := by
          rintro rfl
          cases lo <;> first | exact hnd rfl | (have q3 := q2; cases q3)
        refine ⟨ob, ?_, q2.symm⟩
        unfold H.obj
        rw [q1]
        split
        · rename_i hd; cases hd; exact absurd rfl hob
        · rfl
      · rw [g2] at hat; cases hat
    have r0 : R ι h0 w := by
      refine ⟨fun b o p h2 h3 => ?_, fun b b' o o' p p' h2 h2' h3 h3' he => ?_, fun b hb => r.fresh b (hn0 ▸ hb), r.bound, fun b hb => ?_⟩
      · obtain ⟨o', g1, g2⟩ := hsub b o h2
        exact (r.obj b o' p g1 h3).eqv g2
      · obtain ⟨o1, g1, _⟩ := hsub b o h2
        obtain ⟨o2, f1, _⟩ := hsub b' o' h2'
        exact r.inj b b' _ _ p p' g1 f1 h3 h3' he
      · cases hb0 : h0.obj b with
        | none => rfl
        | some o =>
          obtain ⟨o', g1, _⟩ := hsub b o hb0
          rw [r.wf b (hn0 ▸ hb)] at g1; cases g1
    have hcs := hC.fn f s.args h0 _ h1 hcall ι w us r0 hv
    refine hcs.mono fun e w' ret => ?_
    have hat' : ∀ b, (∃ lo, ((b, lo) ∈ cOf s.chg ∨ (b, lo) ∈ s.new) ∧ (mkH (cOf s.chg ++ s.new) h).t.at b = some lo.obj ∧ chkO (h1.t.at b) lo = true) ∨
        ((∀ lo, (b, lo) ∉ cOf s.chg) ∧ (mkH (cOf s.chg ++ s.new) h).t.at b = h.t.at b) := by
      intro b
      rcases mkH_at (cOf s.chg ++ s.new) h b with ⟨lo, g1, g2⟩ | ⟨g1, g2⟩
      · rcases List.mem_append.1 g1 with g1 | g1
        · exact .inl ⟨lo, .inl g1, g2, chkAll_mem hcc g1⟩
        · exact .inl ⟨lo, .inr g1, g2, chkAll_mem hcn g1⟩
      · exact .inr ⟨fun lo hh => g1 lo (List.mem_append.2 (.inl hh)), g2⟩
    have said : ∀ b lo o, (mkH (cOf s.chg ++ s.new) h).t.at b = some lo.obj → chkO (h1.t.at b) lo = true → (⟨(mkH (cOf s.chg ++ s.new) h).t, s.n1⟩ : H).obj b = some o → ∃ o', h1.obj b = some o' ∧ OEq o o' := by
      intro b lo o g1 g2 ho
      have hat := H.obj_at ho
      have hat2 : (mkH (cOf s.chg ++ s.new) h).t.at b = some o := hat
      rw [g1] at hat2; cases hat2
      obtain ⟨ob, q1, q2, _⟩ := chkO_spec g2
      have hnd : lo.obj ≠ .dead := by
        intro e
        have : (⟨(mkH (cOf s.chg ++ s.new) h).t, s.n1⟩ : H).obj b = none := by unfold H.obj; simp only []; rw [g1, e]
        rw [this] at ho; cases ho
      have hob : ob ≠ .dead := by
        rintro rfl
        cases lo <;> first | exact hnd rfl | (have q3 := q2; cases q3)
      refine ⟨ob, ?_, q2.symm⟩
      unfold H.obj
      rw [q1]
      split
      · rename_i hd; cases hd; exact absurd rfl hob
      · rfl
    have oldp : ∀ b lo, (b, lo) ∈ s.l0 → (∃ q ∈ s.chg, q.1 = b ∧ diffO lo q.2.1 q.2.2 = true) ∨ ((∀ lo', (b, lo') ∉ cOf s.chg) ∧ chkO (h1.t.at b) lo = true) := by
      intro b lo hm
      unfold chkOld at hco
      rw [List.all_eq_true] at hco
      have := hco _ hm
      simp only at this
      split at this
      · rename_i q hq
        have h5 := List.find?_some (p := fun q : Nat × LO × Nat => Nat.beq q.1 b) hq
        exact .inl ⟨q, List.mem_of_find?_eq_some hq, Nat.eq_of_beq_eq_true h5, this⟩
      · rename_i hq
        refine .inr ⟨fun lo' hh => ?_, this⟩
        obtain ⟨q, q1, q2⟩ := List.mem_map.1 hh
        obtain ⟨qb, ql, qi⟩ := q
        cases q2
        have := dist_find hdist q1
        rw [this] at hq; cases hq
    refine Ret.frame (h0 := h0) (h1 := h1) r hn0 hsub ret hn1.symm (fun b hb => ?_) (fun b o0 hb h0b heq => ?_) (fun b o hb ho => ?_)
    · rcases hat' b with ⟨lo, g1, g2, g3⟩ | ⟨_, g2⟩
      · right
        refine ⟨fun he => ?_, fun o ho => said b lo o g2 g3 ho⟩
        rcases h0at b with ⟨lo0, f1, f2⟩ | ⟨_, f2⟩
        · rcases oldp b lo0 f1 with ⟨q, q1, q2, q3⟩ | ⟨q1, q2⟩
          · obtain ⟨qb, ql, qi⟩ := q
            cases q2
            have := chkAll_mem hcc (List.mem_map.2 ⟨_, q1, rfl⟩)
            exact diffO_ne q3 this (f2 ▸ he)
          · rcases g1 with g1 | g1
            · exact q1 lo g1
            · have := newName b lo g1; omega
        · obtain ⟨ob, k1, _, _⟩ := chkO_spec g3
          rw [f2, k1] at he; cases he
      · exact .inl g2
    · have hat := H.obj_at h0b
      rcases h0at b with ⟨lo, f1, f2⟩ | ⟨_, f2⟩
      · rw [f2] at hat; cases hat
        obtain ⟨o', e1, e2⟩ := hsub b _ h0b
        rcases hat' b with ⟨lo', g1, g2, g3⟩ | ⟨g1, g2⟩
        · have ho' : (⟨(mkH (cOf s.chg ++ s.new) h).t, s.n1⟩ : H).obj b = some o' := (H.obj_of_at heq).trans e1
          obtain ⟨o1, q1, q2⟩ := said b lo' o' g2 g3 ho'
          exact ⟨o1, q1, e2.trans q2⟩
        · rcases oldp b lo f1 with ⟨q, q1, q2, q3⟩ | ⟨_, q2⟩
          · obtain ⟨qb, ql, qi⟩ := q
            cases q2
            exact absurd (List.mem_map.2 ⟨_, q1, rfl⟩) (g1 ql)
          · obtain ⟨ob, k1, k2, _⟩ := chkO_spec q2
            have hnd : lo.obj ≠ .dead := by
              intro e
              have : h0.obj b = none := by unfold H.obj; rw [f2, e]
              rw [this] at h0b; cases h0b
            have hob : ob ≠ .dead := by
              rintro rfl
              cases lo <;> first | exact hnd rfl | (have q3 := k2; cases q3)
            refine ⟨ob, ?_, k2.symm⟩
            unfold H.obj
            rw [k1]
            split
            · rename_i hd; cases hd; exact absurd rfl hob
            · rfl
      · rw [f2] at hat; cases hat
    · rcases hat' b with ⟨lo, g1, g2, g3⟩ | ⟨_, g2⟩
      · exact said b lo o g2 g3 ho
      · have : (⟨(mkH (cOf s.chg ++ s.new) h).t, s.n1⟩ : H).obj b = h.obj b := H.obj_of_at g2
        rw [this, r.wf b hb] at ho; cases ho
  · cases hok
noncomputable def segAt (s : Seg) (args : List AV) (h : H) (k : Option (AV × H)) : Option (AV × H) := bif Nat.beq h.next s.n0 then (bif listEq (eqV 9) args s.args && chkAll h s.l0 then s.give h else none) else k
theorem segAt_sound {s : Seg} {P : Program} {X : Ext0} {S : Sums} {L d : Nat} {f : FuncId} (hok : s.ok P X S L d f = true) (hC : CallSound P (callA P X S L d)) {ι : Io} {h h' : H} {w : World} {us : List Value} {args : List AV} {k : Option (AV × H)} {v : AV}
    (r : R ι h w) (hv : VRs ι args us) (he : segAt s args h k = some (v, h')) (hk : k = some (v, h') → Calls P f us.toArray w (Ret ι h w v h')) : Calls P f us.toArray w (Ret ι h w v h') := by
  unfold segAt at he
  simp only [Bool.cond_eq_ite] at he
  split at he
  · rename_i hn
    split at he
    · rename_i hc
      rw [Bool.and_eq_true] at hc
      obtain rfl := listEq_eq (eqV_eq 9) hc.1
      exact s.sound hok hC r hv (Nat.eq_of_beq_eq_true hn) hc.2 he
    · cases he
  · exact hk he
def aI (n : Nat) : AV := .int .i64 (.ofNat n)
def aB (n : Nat) : AV := .int .u8 (.ofNat n)
def aH (n : Nat) : AV := .int .u16 (.ofNat n)
def aW (n : Nat) : AV := .int .u32 (.ofNat n)
def aQ (n : Nat) : AV := .int .u64 (.ofNat n)
end Go.Abs
