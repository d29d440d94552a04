/- Memory as it is handed over: every block can be read, none is written; bytes and numbers that lie there, read, and read again. No condition. -/
import Derived.Deep.Slices
import Derived.Lib.SmallJoins
import Derived.Test.YtkihpcjfhilgcaaGreatU01
namespace Go.Abs
open Go.Proofs
noncomputable def absV (N : Nat) : Value → Option AV
  | .bool b => some (.bool b)
  | .int k n => some (.int k n)
  | .string s => some (.str s)
  | .slice (some a) len cap => if cap = 0 then (if len = 0 then some (.slice N 0 0 0 1 true) else none) else if a.spot = none ∧ a.block < N ∧ len ≤ cap then some (.slice a.block a.off len cap 1 true) else none
  | .slice none 0 0 => some .snil
  | _ => none
def ioN (N : Nat) : Io := fun b => if b < N then some ⟨b, 0, 0⟩ else none
theorem ioN_some {N b : Nat} {p : Pl} (h : ioN N b = some p) : b < N ∧ p = ⟨b, 0, 0⟩ := by
  unfold ioN at h
  split at h
  · rename_i hb; cases h; exact ⟨hb, rfl⟩
  · cases h
theorem absV_vr {N : Nat} {v : Value} {a : AV} (h : absV N v = some a) : VR (ioN N) a v := by
  unfold absV at h
  split at h
  · cases h; exact .bool _
  · cases h; exact .int _ _
  · cases h; exact .str _
  · rename_i ad len cap
    split at h
    · rename_i hc
      split at h
      · rename_i hl
        cases h; subst hc; subst hl
        exact .slice (Nat.le_refl _) (Nat.le_refl _) (fun _ => rfl) (fun h => absurd h (Nat.lt_irrefl _)) (fun h => by cases h)
      · cases h
    · split at h
      · rename_i hc
        obtain ⟨h1, h2, h3⟩ := hc
        cases h
        refine .slice h3 (Nat.le_refl _) (fun _ => rfl) (fun _ => ⟨⟨ad.block, 0, 0⟩, by simp [ioN, h2], ?_, fun h => by cases h⟩) (fun h => by cases h)
        obtain ⟨b, o, s⟩ := ad
        simp only at h1
        subst h1
        simp
      · cases h
  · cases h; exact .snil
  · cases h
noncomputable def trO {α β : Type} (f : α → Option β) : List α → Nat → Tr β → Tr β
  | [], _, c => c
  | v :: vs, o, c => trO f vs (o + 1) (match f v with | some a => c.put o a | none => c)
theorem trO_at {α β : Type} (f : α → Option β) : ∀ (vs : List α) (o : Nat) (c : Tr β), (∀ i, o ≤ i → c.at i = none) → ∀ i, (trO f vs o c).at i = if i < o then c.at i else (vs[i - o]?).bind f
  | [], o, c, hc, i => by
    simp only [trO]
    split
    · rfl
    · rename_i h; rw [hc i (by omega)]; simp
  | v :: vs, o, c, hc, i => by
    simp only [trO]
    have hc' : ∀ j, o + 1 ≤ j → (match f v with | some a => c.put o a | none => c).at j = none := fun j hj => by
      split
      · rw [Tr.at_put, if_neg (by omega)]; exact hc j (by omega)
      · exact hc j (by omega)
    rw [trO_at f vs (o + 1) _ hc' i]
    by_cases h1 : i < o
    · rw [if_pos (by omega), if_pos h1]
      split
      · rw [Tr.at_put, if_neg (by omega)]
      · rfl
    · rw [if_neg h1]
      by_cases h2 : i = o
      · subst h2
        rw [if_pos (by omega), Nat.sub_self]
        simp only [List.getElem?_cons_zero, Option.bind_some]
        split
        · rename_i a ha; rw [Tr.at_put, if_pos rfl, ha]
        · rename_i ha; rw [hc _ (Nat.le_refl _), ha]
      · rw [if_neg (by omega), show i - o = (i - (o + 1)) + 1 by omega, List.getElem?_cons_succ]
theorem trO_nil {α β : Type} (f : α → Option β) (vs : List α) (i : Nat) : (trO f vs 0 .nil).at i = (vs[i]?).bind f := by
  rw [trO_at f vs 0 .nil (fun j _ => Tr.at_nil j) i, if_neg (Nat.not_lt_zero _), Nat.sub_zero]
noncomputable def absO (N : Nat) : Obj → Option AObj
  | .cells cs _ _ => some (.ro (trO (absV N) cs.toList 0 .nil))
  | _ => none
noncomputable def hW (w : World) : H := ⟨trO (absO w.heap.size) w.heap.toList 0 .nil, w.heap.size + 1⟩
theorem hW_obj (w : World) (b : Nat) : (hW w).obj b = (w.heap[b]?).bind (absO w.heap.size) := by
  unfold H.obj hW
  simp only
  rw [trO_nil, Array.getElem?_toList]
  cases w.heap[b]? with
  | none => rfl
  | some O => cases O <;> rfl
theorem hW_ro {w : World} {b : Nat} {o : AObj} (h : (hW w).obj b = some o) : ∃ cs t fr, w.heap[b]? = some (.cells cs t fr) ∧ o = .ro (trO (absV w.heap.size) cs.toList 0 .nil) := by
  rw [hW_obj] at h
  cases hb : w.heap[b]? with
  | none => rw [hb] at h; cases h
  | some O =>
    rw [hb] at h
    cases O with
    | cells cs t fr => cases h; exact ⟨cs, t, fr, rfl, rfl⟩
    | _ => cases h
theorem R.ofWorld (w : World) : R (ioN w.heap.size) (hW w) w := {
  obj b o p h1 h2 := by
    obtain ⟨cs, t, fr, h3, rfl⟩ := hW_ro h1
    obtain ⟨hb, rfl⟩ := ioN_some h2
    intro i v hv
    rw [trO_nil] at hv
    obtain ⟨u, hu, hv⟩ := Option.bind_eq_some_iff.1 hv
    rw [Array.getElem?_toList] at hu
    exact ⟨u, by simp [World.cell?, h3, hu], absV_vr hv⟩
  inj b b' o o' p p' h1 h2 h3 h4 he := by
    obtain ⟨_, rfl⟩ := ioN_some h3
    obtain ⟨_, rfl⟩ := ioN_some h4
    exact he
  fresh b hb := by
    have hb : w.heap.size + 1 ≤ b := hb
    unfold ioN
    rw [if_neg (by omega)]
  bound b p h := by obtain ⟨hb, rfl⟩ := ioN_some h; exact hb
  wf b hb := by
    have hb : w.heap.size + 1 ≤ b := hb
    rw [hW_obj, Array.getElem?_eq_none (by omega)]; rfl }
theorem WF.ofWorld (w : World) : WF (hW w) := (R.ofWorld w).wf
theorem Keep.ofWorld {w w' : World} {ι' : Io} {h' : H} (k : Keep (ioN w.heap.size) ι' (hW w) h' w w') : ∀ i, i < w.heap.size → w'.heap[i]? = w.heap[i]? := fun i hi =>
  k.frame i hi fun b p o h1 h2 h3 => by
    obtain ⟨_, _, _, _, rfl⟩ := hW_ro h2
    cases h3
theorem cell_lt {w : World} {a : Addr} {u : Value} (h : w.cell? a = some u) : a.block < w.heap.size ∧ a.spot = none := by
  unfold World.cell? at h
  split at h
  · rename_i cs t fr hb
    split at h
    · cases h
    · rename_i hs
      refine ⟨(Array.getElem?_eq_some_iff.1 hb).1, ?_⟩
      cases hq : a.spot with
      | none => rfl
      | some q => rw [hq] at hs; exact absurd rfl hs
  · cases h
theorem load_hW {w : World} {t : TypeId} {a : Addr} {u : Value} {v : AV} (hag : isAg Tryz.prog t = some false) (hc : w.cell? a = some u) (hv : absV w.heap.size u = some v) : loadA Tryz.prog (hW w) t a.block a.off = some v := by
  unfold World.cell? at hc
  split at hc
  · rename_i cs t fr hb
    split at hc
    · cases hc
    · refine loadA_ro hag (c := trO (absV w.heap.size) cs.toList 0 .nil) (by rw [hW_obj, hb]; rfl) ?_
      rw [trO_nil, Array.getElem?_toList, hc]
      exact hv
  · cases hc
theorem add_parts (a : Addr) (i : Nat) : (a.add i).block = a.block ∧ (a.add i).off = a.off + i := by
  unfold Addr.add
  split
  · rename_i h; subst h; exact ⟨rfl, rfl⟩
  · exact ⟨rfl, rfl⟩
theorem cell_same {w w' : World} {a : Addr} (h : w'.heap[a.block]? = w.heap[a.block]?) : w'.cell? a = w.cell? a := by
  simp [World.cell?, h]
end Go.Abs
namespace Go.Abs
open Go.Proofs Go.ChangeShapes Go.WideShapes Go.Deep Go.Joins
variable {H : Type} {enc : TypeId × Value → H} {W W' : World}
theorem cells3 : Tryz.prog.cellsOf 3 = 1 := by kernel_rfl
theorem cells5 : Tryz.prog.cellsOf 5 = 1 := by kernel_rfl
theorem slice_parts {a : Addr} {len cap : Nat} (hl : len ≤ cap) (hc : ∀ i, i < cap → ∃ u, W.cell? (a.add i) = some u) :
    ∃ b o cp, absV W.heap.size (.slice (some a) len cap) = some (.slice b o len cp 1 true) ∧ len ≤ cp ∧ b < (hW W).next ∧ ∀ i, i < cap → b = (a.add i).block ∧ o + i = (a.add i).off := by
  by_cases h0 : cap = 0
  · subst h0
    obtain rfl : len = 0 := by omega
    exact ⟨W.heap.size, 0, 0, by simp [absV], Nat.le_refl _, Nat.lt_succ_self _, fun i hi => absurd hi (Nat.not_lt_zero _)⟩
  · obtain ⟨u, hu⟩ := hc 0 (by omega)
    obtain ⟨h1, h2⟩ := cell_lt hu
    have ha : a.add 0 = a := by simp [Addr.add]
    rw [ha] at h1 h2
    refine ⟨a.block, a.off, cap, by simp [absV, h0, h1, h2, hl], hl, Nat.lt_succ_of_lt h1, fun i hi => ?_⟩
    obtain ⟨q1, q2⟩ := add_parts a i
    exact ⟨q1.symm, q2.symm⟩
theorem img_hW {held : Bool} {fuel : Nat} {v : Value} {x : DataW H × List MemPlace} (h : DataW.trod enc Tryz.prog W 0 (fun _ => true) held fuel 26 [v] = some x) :
    ∃ s l, absV W.heap.size v = some s ∧ Img (hW W) s l ∧ (∀ c, blkOf s c → c < (hW W).next) ∧ ∀ x ∈ l, x < 256 := by
  rcases open_ints Tryz.underlying26 Tryz.underlying5 cells5 h with ⟨hcs, _⟩ | ⟨a, len, cap, zs, hcs, _, hl, hm, hz, _, hcell, hwf⟩
  · obtain rfl : v = .slice none 0 0 := by simpa using hcs
    exact ⟨.snil, [], rfl, .inl ⟨rfl, rfl⟩, fun c hc => hc.elim, fun x hx => by cases hx⟩
  · obtain rfl : v = .slice (some a) len cap := by simpa using hcs
    simp only [if_true] at hz
    obtain ⟨b, o, cp, e1, e2, e3, e4⟩ := slice_parts hl fun i hi => ⟨_, hcell i (by omega)⟩
    have hb : ∀ z ∈ zs, 0 ≤ z ∧ z < 256 := fun z hz => by
      have := hwf z hz
      simp [Lit.wf, IntKind.min, IntKind.max, IntKind.signed, IntKind.bits] at this
      omega
    have hlen : ((zs.take len).map Int.toNat).length = len := by rw [List.length_map, List.length_take]; omega
    refine ⟨_, (zs.take len).map Int.toNat, e1, .inr ⟨b, o, cp, true, by rw [hlen], by omega, fun i x hx => ?_⟩, fun c hc => by obtain rfl : c = b := hc; exact e3, fun x hx => ?_⟩
    · have hi : i < len := by have := (List.getElem?_eq_some_iff.1 hx).1; omega
      obtain ⟨q1, q2⟩ := e4 i (by omega)
      rw [q1, q2]
      rw [List.getElem?_map, List.getElem?_take, if_pos hi] at hx
      have hzi : zs[i]? = some (zs[i]'(by omega)) := List.getElem?_eq_getElem _
      rw [hzi] at hx
      simp only [Option.map_some, Option.some.injEq] at hx
      have := hcell i (by omega)
      rw [List.getD_eq_getElem?_getD, hzi, Option.getD_some] at this
      have hge := (hb _ (List.getElem_mem (show i < zs.length by omega))).1
      have hxx : zs[i]'(by omega) = Int.ofNat x := by rw [← hx]; exact (Int.toNat_of_nonneg hge).symm
      rw [hxx] at this
      exact load_hW (by kernel_rfl) this rfl
    · obtain ⟨z, hz', rfl⟩ := List.mem_map.1 hx
      have := hb z (List.mem_of_mem_take hz')
      omega
theorem reshut_ints {t e : TypeId} {k : IntKind} (ht : Tryz.prog.underlying t = some (.slice e)) (he : Tryz.prog.underlying e = some (.int k)) (hc : Tryz.prog.cellsOf e = 1) (hh : ∀ i, i < W.heap.size → W'.heap[i]? = W.heap[i]?)
    {fuel : Nat} {v : Value} {x : DataW H × List MemPlace} (h : DataW.trod enc Tryz.prog W 0 (fun _ => true) true fuel t [v] = some x) (sp : Nat → Bool) (hsp : ∀ p ∈ x.2, sp p.block = true) :
    ∃ n, DataW.trod enc Tryz.prog W' 0 sp true n t [v] = some x := by
  rcases open_ints ht he hc h with ⟨hcs, hx⟩ | ⟨a, len, cap, zs, hcs, hb, hl, hm, hz, hx, hcell, hwf⟩
  · rw [hcs, hx]
    exact field_of_Trod (Go.RowKit.shut_slice_nil ht) rfl
  · simp only [if_true] at hz
    rw [hcs, hx]
    refine ⟨_, shut_ints 0 ht he hc hb hl hm ?_ (fun i hi => ?_) hwf⟩
    · by_cases h0 : cap = 0
      · split <;> omega
      · have hs : sp a.block = true := hsp (.cell a.block (a.off + 0)) (by rw [hx]; exact List.mem_map.2 ⟨0, List.mem_range.2 (by omega), rfl⟩)
        rw [hs, if_pos rfl]; exact hz
    · have := hcell i hi
      rw [cell_same (hh _ (cell_lt this).1)]; exact this
theorem reshut_int {t : TypeId} {k : IntKind} (ht : Tryz.prog.underlying t = some (.int k)) {fuel : Nat} {v : Value} {x : DataW H × List MemPlace} (h : DataW.trod enc Tryz.prog W 0 (fun _ => true) true fuel t [v] = some x) (sp : Nat → Bool) :
    ∃ n, DataW.trod enc Tryz.prog W' 0 sp true n t [v] = some x := by
  obtain ⟨m, hcs, rfl, hw⟩ := DataW.trod_int ht h
  rw [hcs]
  exact field_of_Trod (shut_int ht hw) rfl
theorem kept_of_same {W W' : World} (h1 : W'.os = W.os) (h2 : W'.output = W.output) (hh : ∀ i, i < W.heap.size → W'.heap[i]? = W.heap[i]?) (may : MemPlace → Prop) : W.keptBut W' may := by
  refine ⟨h1, h2, fun i hi => ?_⟩
  rw [hh i hi]
  cases W.heap[i]? with
  | none => rfl
  | some o => cases o <;> first | rfl | exact ⟨rfl, rfl, rfl, fun _ _ => rfl⟩ | exact .inr ⟨rfl, rfl⟩
theorem post_of_kept {P : Program} {f : Func} {s : ChangeSpec} {apart fresh handsOn again : Bool} {W W' : World} {args : Array Value} {v : Value} {ds gs : List (DataW H)} {before pa pv : List MemPlace}
    (hW : DataW.Whole enc P f.params.toList s.vars apart W args.toList ds gs before)
    (hres : ∀ (b : Nat) (sp : Nat → Bool) (hd : Bool), DataW.TrodAll enc P W' b sp hd f.resultTypes.toList (v.resultList f.resultTypes.size) (s.fn H (ds ++ gs)).results [])
    (hargs : ∀ sp : Nat → Bool, (∀ p ∈ before, sp p.block = true) → DataW.TrodAll enc P W' 0 sp true f.params.toList args.toList (s.fn H (ds ++ gs)).args pa)
    (hvars : ∀ sp : Nat → Bool, (∀ p ∈ before, sp p.block = true) → DataW.TrodVars enc P W' sp s.vars (s.fn H (ds ++ gs)).vars pv)
    (hps : before = pa ++ pv) (h1 : W'.os = W.os) (h2 : W'.output = W.output) (hh : ∀ i, i < W.heap.size → W'.heap[i]? = W.heap[i]?)
    (hok : ∀ (j : Nat) (t : TypeId) (r : Value), f.resultTypes[j]? = some t → (v.resultList f.resultTypes.size)[j]? = some r → Value.okWide P W' .any 0 t r) :
    s.post enc P f apart fresh handsOn again W args v W' := by
  have hlt := hW.lt
  have hold : ∀ p ∈ before, (fun b => decide (b < W.heap.size)) p.block = true := fun p hp => by simpa using hlt p hp
  refine ⟨ds, gs, before, [], pa, pv, hW, hres _ _ _, hargs _ hold, hvars _ hold, kept_of_same h1 h2 hh _, fun _ => ?_⟩
  obtain ⟨_, _, _, _, _, hz, hn⟩ := hW
  refine ⟨hok, _, _, ([] ++ pa) ++ pv, ⟨[] ++ pa, pv, trodAll_append (hargs _ (fun _ _ => rfl)) (hres _ _ _), hvars _ (fun _ _ => rfl), rfl, ?_, ?_⟩, ?_⟩
  · intro b off hp
    have hp' : MemPlace.cell b off ∈ before := by rw [hps]; simpa using hp
    have hb : b < W.heap.size := hlt _ hp'
    have := hz b off hp'
    simpa [World.frozen?, hh b hb] using this
  · intro ha
    have := hn ha
    rw [hps] at this
    simpa using this
  · intro p hp _
    rw [hps]
    simpa using hp
end Go.Abs
