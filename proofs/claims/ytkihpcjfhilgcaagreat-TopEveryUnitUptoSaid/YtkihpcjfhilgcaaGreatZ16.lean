/- slices.Sorted over the keys of a map of int keys: the summary with which a run steps over it. No condition. -/
import Derived.Test.YtkihpcjfhilgcaaGreatZ10
import Derived.Test.YtkihpcjfhilgcaaGreatZ15
namespace Go.Abs
open Go.Proofs Go.Maps Go.RowKit Go.WideElems Go.WideShapes
def keysE (cl : Nat) : List Ent → Option (List (Nat × Nat))
  | [] => some []
  | ⟨.int .i64 (.ofNat k), _, b⟩ :: es => bif Nat.blt k 9223372036854775808 && Nat.blt b cl then (match keysE cl es with
    | some r => bif r.any (fun q => Nat.beq q.1 k || Nat.beq q.2 b) then none else some ((k, b) :: r)
    | none => none) else none
  | _ => none
def insN (x : Nat) : List Nat → List Nat
  | [] => [x]
  | y :: r => bif Nat.ble x y then x :: y :: r else y :: insN x r
def sortN : List Nat → List Nat
  | [] => []
  | x :: r => insN x (sortN r)
theorem insN_perm (x : Nat) : ∀ l, (insN x l).Perm (x :: l)
  | [] => .refl _
  | y :: r => by
    unfold insN
    rw [Bool.cond_eq_ite]
    split
    · exact .refl _
    · exact ((insN_perm x r).cons y).trans (.swap x y r)
theorem sortN_perm : ∀ l, (sortN l).Perm l
  | [] => .refl _
  | x :: r => (insN_perm x _).trans ((sortN_perm r).cons x)
theorem insN_sorted (x : Nat) : ∀ {l : List Nat}, l.Pairwise (· ≤ ·) → (insN x l).Pairwise (· ≤ ·)
  | [], _ => by simp [insN]
  | y :: r, h => by
    unfold insN
    rw [Bool.cond_eq_ite]
    obtain ⟨h1, h2⟩ := List.pairwise_cons.1 h
    split
    · rename_i hxy
      have hxy : x ≤ y := Nat.le_of_ble_eq_true hxy
      refine List.pairwise_cons.2 ⟨fun a ha => ?_, h⟩
      rcases List.mem_cons.1 ha with rfl | ha
      · exact hxy
      · exact Nat.le_trans hxy (h1 a ha)
    · rename_i hxy
      have hxy : y ≤ x := by simp only [Nat.ble_eq] at hxy; omega
      refine List.pairwise_cons.2 ⟨fun a ha => ?_, insN_sorted x h2⟩
      rcases List.mem_cons.1 ((insN_perm x r).mem_iff.1 ha) with rfl | ha
      · exact hxy
      · exact h1 a ha
theorem sortN_sorted : ∀ l, (sortN l).Pairwise (· ≤ ·)
  | [] => .nil
  | x :: r => insN_sorted x (sortN_sorted r)
theorem mergeSort_sortN {ss : List Int} {ks : List Nat} (h : ss.Perm (ks.map Int.ofNat)) : ss.mergeSort (fun x y => decide (x ≤ y)) = (sortN ks).map Int.ofNat := by
  rw [mergeSort_of_perm_i (h.trans ((sortN_perm ks).symm.map Int.ofNat))]
  refine List.mergeSort_of_pairwise (List.pairwise_map.2 ((sortN_sorted ks).imp fun {a b} hab => ?_))
  simp only [leI, decide_eq_true_eq]
  exact Int.ofNat_le.2 hab
theorem keysE_spec {cl : Nat} : ∀ {es : List Ent} {r : List (Nat × Nat)}, keysE cl es = some r → r.length = es.length ∧ (∀ (i k b : Nat), r[i]? = some (k, b) → ∃ v, es[i]? = some ⟨.int .i64 (.ofNat k), v, b⟩ ∧ k < 9223372036854775808 ∧ b < cl) ∧ (r.map (·.1)).Nodup ∧ (r.map (·.2)).Nodup
  | [], r, h => by cases h; exact ⟨rfl, fun i k b hi => by simp at hi, .nil, .nil⟩
  | e :: es, r, h => by
    unfold keysE at h
    split at h
    · rename_i h0; cases h0
    · rename_i k v b es' h0; cases h0
      rw [Bool.cond_eq_ite] at h
      split at h
      · rename_i hkb
        split at h
        · rename_i r' hr
          rw [Bool.cond_eq_ite] at h
          split at h
          · cases h
          · rename_i hany; cases h
            obtain ⟨h1, h2, h3, h4⟩ := keysE_spec hr
            simp only [Bool.and_eq_true, Nat.blt_eq] at hkb
            have hall : ∀ q ∈ r', q.1 ≠ k ∧ q.2 ≠ b := fun q hq => by
              have hf : (r'.any fun q => Nat.beq q.1 k || Nat.beq q.2 b) = false := by
                cases hc : (r'.any fun q => Nat.beq q.1 k || Nat.beq q.2 b) with
                | false => rfl
                | true => exact absurd hc hany
              rw [List.any_eq_false] at hf
              have := hf q hq
              simp only [Bool.or_eq_true, Nat.beq_eq, not_or] at this
              exact this
            refine ⟨by simp [h1], fun i k' b' hi => ?_, ?_, ?_⟩
            · cases i with
              | zero => simp only [List.getElem?_cons_zero, Option.some.injEq, Prod.mk.injEq] at hi; obtain ⟨rfl, rfl⟩ := hi; exact ⟨v, rfl, hkb⟩
              | succ i => simp only [List.getElem?_cons_succ] at hi ⊢; exact h2 i k' b' hi
            · refine List.nodup_cons.2 ⟨fun hm => ?_, h3⟩
              obtain ⟨q, hq, he⟩ := List.mem_map.1 hm
              exact (hall q hq).1 he
            · refine List.nodup_cons.2 ⟨fun hm => ?_, h4⟩
              obtain ⟨q, hq, he⟩ := List.mem_map.1 hm
              exact (hall q hq).2 he
        · cases h
      · cases h
    · cases h
def anyR : Value → Option (DataW Unit × List MemPlace) := fun _ => some (.nil, [])
theorem ownsMap_of {ι : Io} {p : Pl} {w : World} {es : List Ent} {cl : Nat} {r : List (Nat × Nat)} (ho : OR ι p w (.map es cl)) (hk : keysE cl es = some r) (hsz : r.length ≤ 1000) :
    ∃ D, w.ownsMap Tryz.prog 3 anyR p.blk r.length D ∧ Maps.size D = r.length ∧ (intKeys D).Perm ((r.map (·.1)).map Int.ofNat) := by
  obtain ⟨es', hw, hl, hes⟩ := ho
  obtain ⟨h1, h2, h3, h4⟩ := keysE_spec hk
  have hu : Tryz.prog.underlying 3 = some (.int .i64) := by kernel_rfl
  have hat : ∀ (i : Nat) (e' : MapEntry), es'.toList[i]? = some e' → ∃ k b, r[i]? = some (k, b) ∧ e'.key = .int .i64 (.ofNat k) ∧ e'.born = b ∧ k < 9223372036854775808 ∧ b < cl := by
    intro i e' hi
    have hil : i < es'.size := by simpa using (List.getElem?_eq_some_iff.1 hi).1
    obtain ⟨kb, hkb⟩ : ∃ kb, r[i]? = some kb := ⟨r[i]'(by omega), List.getElem?_eq_getElem _⟩
    obtain ⟨v, g1, g2, g3⟩ := h2 i kb.1 kb.2 hkb
    obtain ⟨f1, f2, f3⟩ := hes i _ e' g1 (by simpa using hi)
    refine ⟨kb.1, kb.2, hkb, ?_, f3.symm, g2, g3⟩
    cases hkey : e'.key <;> rw [hkey] at f1 <;> cases f1
    rfl
  have hmapk : es'.toList.map (·.key) = r.map (fun q => Value.int .i64 (.ofNat q.1)) := by
    refine List.ext_getElem? fun i => ?_
    rw [List.getElem?_map, List.getElem?_map]
    cases hi : es'.toList[i]? with
    | none =>
      have : es'.size ≤ i := by simpa using List.getElem?_eq_none_iff.1 hi
      rw [List.getElem?_eq_none_iff.2 (show r.length ≤ i by omega)]; rfl
    | some e' =>
      obtain ⟨k, b, g1, g2, _⟩ := hat i e' hi
      rw [g1]; simp [g2]
  have hmapb : es'.toList.map (·.born) = r.map (·.2) := by
    refine List.ext_getElem? fun i => ?_
    rw [List.getElem?_map, List.getElem?_map]
    cases hi : es'.toList[i]? with
    | none =>
      have : es'.size ≤ i := by simpa using List.getElem?_eq_none_iff.1 hi
      rw [List.getElem?_eq_none_iff.2 (show r.length ≤ i by omega)]; rfl
    | some e' =>
      obtain ⟨k, b, g1, _, g2, _⟩ := hat i e' hi
      rw [g1]; simp [g2]
  have hrd : ∀ (i : Nat) (e' : MapEntry), es'.toList[i]? = some e' → ∃ k b, r[i]? = some (k, b) ∧ rd Tryz.prog 3 anyR e' = some (.int .i64 (.ofNat k), .nil) := by
    intro i e' hi
    obtain ⟨k, b, g1, g2, g3, g4, g5⟩ := hat i e' hi
    refine ⟨k, b, g1, ?_⟩
    have hwf : (Lit.int .i64 (.ofNat k)).wf = true := by
      have hmin : IntKind.i64.min ≤ 0 := by decide
      simp [Lit.wf]
      omega
    have hkf : keyOf Tryz.prog 3 e'.key = some (.int .i64 (.ofNat k)) := by
      rw [g2]; simp [keyOf, hu, mapKey]; exact hwf
    exact rd_mk (R := anyR) (val := e'.val) (born := e'.born) hkf (show anyR e'.val = some (.nil, []) from rfl)
  have hmaprg : es'.toList.map (rg Tryz.prog 3 anyR) = r.map (fun q => (Lit.int .i64 (.ofNat q.1), (DataW.nil : DataW Unit))) := by
    refine List.ext_getElem? fun i => ?_
    rw [List.getElem?_map, List.getElem?_map]
    cases hi : es'.toList[i]? with
    | none =>
      have : es'.size ≤ i := by simpa using List.getElem?_eq_none_iff.1 hi
      rw [List.getElem?_eq_none_iff.2 (show r.length ≤ i by omega)]; rfl
    | some e' =>
      obtain ⟨k, b, g1, g2⟩ := hrd i e' hi
      rw [g1]; simp [rg_of g2]
  have hnd : (r.map (fun q => Value.int .i64 (.ofNat q.1))).Nodup := by
    have : r.map (fun q => Value.int .i64 (.ofNat q.1)) = (r.map (·.1)).map (fun k => Value.int .i64 (.ofNat k)) := by simp
    rw [this]
    refine List.pairwise_map.2 (h3.imp fun {a b} hab he => hab ?_)
    have he' : ((a : Int)) = (b : Int) := by simpa using he
    exact Int.ofNat_inj.1 he'
  refine ⟨.map ((es'.toList.map (rg Tryz.prog 3 anyR)).foldr DataW.insert []), ⟨es', cl, hw, ⟨by rw [← hl, ← h1]; unfold maxLen; omega, ⟨fun x hx => ?_, by rw [hmapb]; exact h4, by rw [hmapk]; exact hnd⟩, fun x hx => ?_⟩, by omega, rfl⟩, ?_, ?_⟩
  · obtain ⟨i, hi⟩ := List.getElem?_of_mem hx
    obtain ⟨k, b, g1, g2, g3, g4, g5⟩ := hat i x hi
    rw [g3]; exact g5
  · obtain ⟨i, hi⟩ := List.getElem?_of_mem hx
    obtain ⟨k, b, _, g2⟩ := hrd i x hi
    exact ⟨_, g2⟩
  · rw [Maps.size_eq, length_sorted, hmaprg]; simp
  · show ((((es'.toList.map (rg Tryz.prog 3 anyR)).foldr DataW.insert [])).map fun p => intOf p.1).Perm _
    refine ((sorted_perm _).map _).trans ?_
    rw [hmaprg]
    simp [intOf, List.map_map, Function.comp_def]
theorem R.below {ι : Io} {h : H} {w w' : World} (r : R ι h w) (k : Below w.heap.size w w') : R ι h w' :=
  ⟨fun b o p h1 h2 => (r.obj b o p h1 h2).move (.refl ι) (k.block p.blk (r.bound b p h2)), r.inj, r.fresh, fun b p h1 => Nat.lt_of_lt_of_le (r.bound b p h1) k.size, r.wf⟩
theorem Keep.below {ι : Io} {h : H} {w w' : World} (k : Below w.heap.size w w') : Keep ι ι h h w w' :=
  ⟨.refl ι, Nat.le_refl _, fun _b _ hb => ⟨hb, rfl⟩, fun b p o h1 h2 _ => ⟨b, p, o, h1, h2, id, rfl⟩, k.os, k.tape, k.output, k.size, fun i hi _ => k.block i hi⟩
noncomputable def avL (l : List Nat) : List AV := l.map fun k => .int .i64 (.ofNat k)
theorem avL_length (l : List Nat) : (avL l).length = l.length := List.length_map ..
theorem Ret.own {ι : Io} {h : H} {w w' : World} {v : Value} {l : List Nat} (r : R ι h w) (k : Below w.heap.size w w') (ho : w'.ownsRow w.heap.size 3 1 v l.length (l.map fun k => encZ (.ofNat k))) (hv : v ≠ .slice none 0 0) :
    Ret ι h w (.slice h.next 0 l.length l.length 1 false) (h.new (.cells l.length (ofL (avL l)))) (.returned v) w' := by
  obtain ⟨_, ⟨hn, _⟩ | ⟨g, cap, cur, rfl, hg, hw, hnc, hcap, hsz, htk⟩⟩ := ho
  · exact absurd hn hv
  have hgl : g < w'.heap.size := (Array.getElem?_eq_some_iff.1 hw).1
  have g4 := r.below k
  have hfr := r.fresh h.next (Nat.le_refl _)
  have hext : Ext ι (upd ι h.next ⟨g, 0, cap⟩) := .upd _ hfr
  have hold : ∀ d q, d ≠ h.next → upd ι h.next ⟨g, 0, cap⟩ d = some q → ι d = some q := fun d q hd hq => by rwa [upd_other ι _ hd] at hq
  have hcur : ∀ i, i < cap → w'.cell? ⟨g, 0 + i, none⟩ = cur[i]? ∧ w'.frozen? ⟨g, 0 + i, none⟩ = false := fun i hi => by
    simp [World.cell?, World.frozen?, hw]
  have hval : ∀ (i x : Nat), l[i]? = some x → cur[i]? = some (Value.int .i64 (.ofNat x)) := fun i x hx => by
    have hi : i < l.length := (List.getElem?_eq_some_iff.1 hx).1
    have : (cur.toList.take (l.length * 1))[i]? = some (Value.int .i64 (.ofNat x)) := by rw [htk, List.getElem?_map, hx]; rfl
    rw [List.getElem?_take_of_lt (by omega)] at this
    simpa using this
  refine ⟨upd ι h.next ⟨g, 0, cap⟩, .slice (Nat.le_refl _) hnc (fun he => by cases he) (fun _ => ⟨_, upd_same _ _ _, rfl, fun _ => by simp⟩) (fun _ => ⟨_, upd_same _ _ _⟩), ⟨fun d od q h2 h3 => ?_, fun d d' od od' q q' h2 h2' h3 h3' he => ?_, fun d hd => ?_, fun d q h3 => ?_, fun d hd => ?_⟩, ?_⟩
  · rw [H.obj_new _ _ _ (by simp)] at h2
    split at h2
    · rename_i hd; subst hd; cases h2; rw [upd_same] at h3; cases h3
      refine ⟨hnc, fun i hi => ?_, fun i v hi hv' => ?_⟩
      · obtain ⟨f1, f2⟩ := hcur i hi
        rw [f1, f2]
        have hi' : i < cap := hi
        exact ⟨by rw [Array.getElem?_eq_getElem (by omega)]; rfl, rfl⟩
      · unfold ofL at hv'
        rw [at_puts, if_pos ⟨Nat.zero_le _, by rw [avL_length]; omega⟩, Nat.sub_zero] at hv'
        unfold avL at hv'
        rw [List.getElem?_map] at hv'
        cases hx : l[i]? with
        | none => rw [hx] at hv'; cases hv'
        | some x =>
          rw [hx] at hv'; cases hv'
          exact ⟨_, (hcur i (by omega)).1.trans (hval i x hx), .int _ _⟩
    · rename_i hd
      exact (g4.obj d od q h2 (hold d q hd h3)).move hext rfl
  · rw [H.obj_new _ _ _ (by simp)] at h2 h2'
    by_cases hd : d = h.next
    · by_cases hd' : d' = h.next
      · rw [hd, hd']
      · rw [hd, upd_same] at h3; cases h3
        have h4 : g = q'.blk := he
        have := r.bound d' q' (hold d' q' hd' h3')
        omega
    · rw [if_neg hd] at h2
      by_cases hd' : d' = h.next
      · rw [hd', upd_same] at h3'; cases h3'
        have h4 : q.blk = g := he
        have := r.bound d q (hold d q hd h3)
        omega
      · rw [if_neg hd'] at h2'
        exact r.inj d d' od od' q q' h2 h2' (hold d q hd h3) (hold d' q' hd' h3') he
  · have : h.next + 1 ≤ d := hd
    rw [upd_other ι _ (by omega)]; exact r.fresh d (by omega)
  · by_cases hd : d = h.next
    · subst hd; rw [upd_same] at h3; cases h3; exact hgl
    · exact Nat.lt_of_lt_of_le (r.bound d q (hold d q hd h3)) k.size
  · have : h.next + 1 ≤ d := hd
    rw [H.obj_new _ _ _ (by simp), if_neg (by omega)]; exact r.wf d (by omega)
  · refine ⟨hext, by simp [H.new], fun d hd hn => ⟨by rw [upd_other ι _ (by omega)]; exact hn, by simp only [H.new, Tr.at_put]; rw [if_neg (by omega)]⟩, fun d q o h1 h2 hlt => ?_, k.os, k.tape, k.output, k.size, fun i hi _ => k.block i hi⟩
    by_cases hd : d = h.next
    · subst hd; rw [upd_same] at h1; cases h1
      have : g < w.heap.size := hlt
      omega
    · rw [H.obj_new _ _ _ (by simp), if_neg hd] at h2
      exact ⟨d, q, o, hold d q hd h1, h2, id, rfl⟩
noncomputable def sortOut (h : H) (l : List Nat) : Option (AV × H) := putsK .nil 0 (avL l) fun c => forceN l.length fun n => some (.slice h.next 0 n n 1 false, h.new (.cells n c))
noncomputable def sortS : List AV → H → Option (AV × H)
  | [.func (.func f) [] [.ptr b o]], h => bif Nat.beq f 258 then (match h.obj b with
    | some (.cells m c) => bif Nat.blt o m then (match c.at o with
      | some (.map r) => (match h.obj r with
        | some (.map es cl) => (match keysE cl es with
          | some [] => some (.snil, h)
          | some (q :: ks) => bif Nat.ble (q :: ks).length 1000 then sortOut h (sortN ((q :: ks).map (·.1))) else none
          | none => none)
        | _ => none)
      | _ => none) else none
    | _ => none) else none
  | _, _ => none
theorem sortS_sound {args : List AV} {h h' : H} {v : AV} (he : sortS args h = some (v, h')) {ι : Io} {w : World} {us : List Value} (r : R ι h w) (hv : VRs ι args us) : Calls Tryz.prog 168 us.toArray w (Ret ι h w v h') := by
  unfold sortS at he
  split at he
  case h_2 => cases he
  rename_i f b o
  rw [Bool.cond_eq_ite] at he
  split at he
  case isFalse => cases he
  rename_i hf
  obtain rfl := Nat.eq_of_beq_eq_true hf
  split at he
  case h_2 => cases he
  rename_i m c hb
  rw [Bool.cond_eq_ite] at he
  split at he
  case isFalse => cases he
  rename_i hom
  have hom : o < m := by simpa using hom
  split at he
  case h_2 => cases he
  rename_i rm hc
  split at he
  case h_2 => cases he
  rename_i es cl hr
  -- what lies in the world
  obtain ⟨u, rfl⟩ : ∃ u, us = [u] := by
    have := hv.len
    match us, this with
    | [u], _ => exact ⟨u, rfl⟩
  have hu := hv.at_ 0 _ u rfl rfl
  cases hu with
  | func hf h1 h2 h3 h4 =>
  rename_i first' cap'
  obtain rfl : first' = #[] := by
    have : first'.size = 0 := h1.symm
    exact Array.eq_empty_of_size_eq_zero this
  obtain ⟨cp, rfl⟩ : ∃ cp, cap' = #[cp] := by
    have : cap'.size = 1 := h2.symm
    exact ⟨cap'[0], by apply Array.ext; · simp [this]
                       · intro i hi hi'; have : i = 0 := by simp at hi'; omega
                         subst this; rfl⟩
  have hcp := h4 0 _ cp rfl rfl
  cases hcp with
  | ptr hp =>
  rename_i p
  obtain ⟨u', hcell, hum⟩ := (r.obj b _ p hb hp).2.2 o _ hom hc
  cases hum with
  | map hq =>
  rename_i q
  have key : ∀ ks, keysE cl es = some ks → ks.length ≤ 1000 → Calls Tryz.prog 168 #[.func (.func 258) #[] #[.pointer (some ⟨p.blk, p.base + o, none⟩)]] w fun e w' => ∃ v, e = .returned v ∧
      w'.ownsRow w.heap.size 3 1 v (sortN (ks.map (·.1))).length ((sortN (ks.map (·.1))).map fun k => encZ (.ofNat k)) ∧ (v = .slice none 0 0 ↔ ks = []) ∧ Below w.heap.size w w' := by
    intro ks hks hlen
    obtain ⟨D, hD1, hD2, hD3⟩ := ownsMap_of (r.obj rm _ q hr hq) hks hlen
    refine (callsIn_wide (n := 6)).1 ?_
    have hseq := Tryz.keysOff_gives Fence.wide 3 trivial rfl (by omega) p.blk (p.base + o) q.blk ks.length D w (r.bound b p hp) hcell hD1
    have cS := AnyZI.sorted_in Tryz.sortedA Fence.wide 6 trivial trivial trivial trivial rfl (by omega) (Tryz.sortsA _) (enters_of Tryz.func257 (by kernel_rfl) rfl) 258 #[.pointer (some ⟨p.blk, p.base + o, none⟩)] trivial (enters_of Tryz.func258 (by kernel_rfl) rfl) _ _ (by rw [hD2]; unfold maxLen; omega) (by rw [hD2]; omega) w hseq
    refine cS.mono ?_
    rintro e w' ⟨v, ss, rfl, hS, hrow, hnil, hbel⟩
    have hperm : ss.Perm ((ks.map (·.1)).map Int.ofNat) := hS.trans hD3
    have hlen2 : ss.length = (sortN (ks.map (·.1))).length := by rw [hperm.length_eq, (sortN_perm _).length_eq]; simp
    have hrow2 : w'.ownsRow w.heap.size 3 1 v ss.length ((ss.mergeSort fun x y => decide (x ≤ y)).map encZ) := hrow
    rw [mergeSort_sortN hperm, hlen2, List.map_map] at hrow2
    refine ⟨v, rfl, hrow2, hnil.trans ⟨fun h0 => ?_, fun h0 => ?_⟩, hbel⟩
    · have := hperm.length_eq; rw [h0] at this
      exact List.eq_nil_of_length_eq_zero (by simpa using this.symm)
    · subst h0; exact List.eq_nil_of_length_eq_zero (by simpa using hperm.length_eq)
  split at he
  · rename_i hks; cases he
    refine (key [] hks (by simp)).mono ?_
    rintro e w' ⟨v, rfl, _, h2, h3⟩
    obtain rfl := h2.2 rfl
    exact ⟨ι, .snil, r.below h3, Keep.below h3⟩
  · rename_i kq ks hks
    rw [Bool.cond_eq_ite] at he
    split at he
    · rename_i hl
      unfold sortOut at he
      rw [putsK_eq, forceN_eq] at he; cases he
      refine (key _ hks (Nat.le_of_ble_eq_true hl)).mono ?_
      rintro e w' ⟨v, rfl, h1, h2, h3⟩
      exact Ret.own r h3 h1 (fun hn => by have := h2.1 hn; cases this)
    · cases he
  · cases he
end Go.Abs

/- The summaries with which the whole run is made. No condition. -/
namespace Go.Abs
open Go.Proofs
noncomputable def Sm : Sums := fun f => bif Nat.beq f 80 then some masksS else none
theorem Sm_ok : SOk Sm := ⟨rfl, fun f h1 _ => by
  unfold Sm
  have : Nat.beq f 80 = false := by
    cases h : Nat.beq f 80 with
    | false => rfl
    | true => exact absurd (Nat.eq_of_beq_eq_true h) h1
  rw [this]; rfl⟩
theorem Sm_sound : SumSound Tryz.prog Sm := by
  intro f s hs args h v h' he ι w us r hv
  unfold Sm at hs
  cases hf : Nat.beq f 80 with
  | false => rw [hf] at hs; cases hs
  | true =>
    rw [hf] at hs; cases hs
    obtain rfl := Nat.eq_of_beq_eq_true hf
    exact masksS_sound he r hv
theorem calls_of_cs {f : FuncId} {args : List AV} {L d : Nat} {Q : AV → H → Prop} (hc : CS Tryz.prog X00 Sm L d f args H0 Q) {_ι : Io} {w : World} {us : List Value} (hv : VRs ι0 args us) :
    ∃ v h1, Q v h1 ∧ Calls Tryz.prog f us.toArray w (Ret ι0 H0 w v h1) := by
  obtain ⟨v, h1, e, q⟩ := hc
  exact ⟨v, h1, q, (callA_sound ext_none Sm_sound follows_mixed d).fn f args H0 v h1 e ι0 w us (R.empty w) hv⟩
theorem VRs.bare {ι ι' : Io} {vs : List AV} {us : List Value} (hb : vs.all AV.bare = true) (h : VRs ι vs us) : VRs ι' vs us :=
  ⟨h.len, fun i a u h1 h2 => (h.at_ i a u h1 h2).bare (by rw [List.all_eq_true] at hb; exact hb a (List.mem_of_getElem? h1))⟩
noncomputable def encS : List AV → H → Option (AV × H)
  | [.int .u32 (.ofNat m)], h => bif Nat.blt m 4294967296 then some (.int .u64 (.ofNat (enc m)), h) else none
  | _, _ => none
noncomputable def repS : List AV → H → Option (AV × H)
  | [.int .u64 (.ofNat m)], h => bif Nat.blt m 18446744073709551616 then some (.tup [.int .u64 (.ofNat (repN m).1), .int .i64 (.ofNat (repN m).2)], h) else none
  | _, _ => none
noncomputable def decS : List AV → H → Option (AV × H)
  | [.int .u64 (.ofNat m)], h => bif Nat.blt m 18446744073709551616 then some (.tup [.int .u32 (.ofNat (decN m).1), .int .i64 (.ofNat (decN m).2)], h) else none
  | _, _ => none
theorem pure_sound {f : FuncId} {args : List AV} {v : AV} {L d : Nat} (hb : args.all AV.bare = true) (hvb : v.bares = true) (hc : CS Tryz.prog X00 Sm L d f args H0 (fun v' _ => v' = v)) {ι : Io} {h : H} {w : World} {us : List Value} (r : R ι h w) (hv : VRs ι args us) :
    Calls Tryz.prog f us.toArray w (Ret ι h w v h) := by
  obtain ⟨v', h1, rfl, hcalls⟩ := calls_of_cs hc (_ι := ι) (w := w) (hv.bare hb)
  exact hcalls.mono fun e w' ret => Ret.pure r hvb ret
theorem encS_sound {args : List AV} {h h' : H} {v : AV} (he : encS args h = some (v, h')) {ι : Io} {w : World} {us : List Value} (r : R ι h w) (hv : VRs ι args us) : Calls Tryz.prog 22 us.toArray w (Ret ι h w v h') := by
  unfold encS at he
  split at he
  · rename_i m
    rw [Bool.cond_eq_ite] at he
    split at he
    · rename_i hm; cases he
      exact pure_sound (L := 100) (d := 3) rfl rfl ((enc_spec (d := 0) Sm_ok (Nat.le_refl _) m (by simpa using hm)).mono fun _ _ q => q.1) r hv
    · cases he
  · cases he
theorem repS_sound {args : List AV} {h h' : H} {v : AV} (he : repS args h = some (v, h')) {ι : Io} {w : World} {us : List Value} (r : R ι h w) (hv : VRs ι args us) : Calls Tryz.prog 82 us.toArray w (Ret ι h w v h') := by
  unfold repS at he
  split at he
  · rename_i m
    rw [Bool.cond_eq_ite] at he
    split at he
    · rename_i hm; cases he
      exact pure_sound (L := 100) (d := 3) rfl rfl ((repair_spec (d := 0) Sm_ok (Nat.le_refl _) m (by simpa using hm)).mono fun _ _ q => q.1) r hv
    · cases he
  · cases he
theorem decS_sound {args : List AV} {h h' : H} {v : AV} (he : decS args h = some (v, h')) {ι : Io} {w : World} {us : List Value} (r : R ι h w) (hv : VRs ι args us) : Calls Tryz.prog 58 us.toArray w (Ret ι h w v h') := by
  unfold decS at he
  split at he
  · rename_i m
    rw [Bool.cond_eq_ite] at he
    split at he
    · rename_i hm; cases he
      exact pure_sound (L := 100) (d := 4) rfl rfl ((decode_spec (d := 0) Sm_ok (Nat.le_refl _) m (by simpa using hm)).mono fun _ _ q => q.1) r hv
    · cases he
  · cases he
noncomputable def byteStep (v : AV) (ih : Option (List Nat)) : Option (List Nat) := match v with
      | .int .u8 (.ofNat n) => bif Nat.blt n 256 then (match ih with | some ns => some (n :: ns) | none => none) else none
      | _ => none
noncomputable def byteL (vs : List AV) : Option (List Nat) :=
  List.rec (motive := fun _ => Option (List Nat)) (some []) (fun v _ ih => byteStep v ih) vs
theorem byteL_spec : ∀ {vs : List AV} {ns : List Nat}, byteL vs = some ns → ns.length = vs.length ∧ (∀ x ∈ ns, x < 256) ∧ ∀ (i x : Nat), ns[i]? = some x → vs[i]? = some (AV.int .u8 (.ofNat x))
  | [], ns, h => by cases h; exact ⟨rfl, fun x hx => (by cases hx), fun i x hx => by simp at hx⟩
  | v :: vs, ns, h => by
    have h' : byteStep v (byteL vs) = some ns := h
    unfold byteStep at h'
    split at h'
    · rename_i n
      rw [Bool.cond_eq_ite] at h'
      split at h'
      · rename_i hn
        split at h'
        · rename_i ns' hns; cases h'
          obtain ⟨h1, h2, h3⟩ := byteL_spec hns
          refine ⟨by simp [h1], fun x hx => ?_, fun i x hx => ?_⟩
          · rcases List.mem_cons.1 hx with rfl | hx
            · simpa using hn
            · exact h2 x hx
          · cases i with
            | zero => simp at hx; subst hx; rfl
            | succ i => simp at hx ⊢; exact h3 i x hx
        · cases h'
      · cases h'
    · cases h'
noncomputable def sliceB (h : H) : AV → Option (List Nat)
  | .slice b o n cp 1 _ => bif Nat.ble n cp && Nat.blt n 1000000 then match h.obj b with
    | some (.cells m c) => bif Nat.ble (o + n) m then match gets c o n with
      | some vs => byteL vs
      | none => none
      else none
    | _ => none
    else none
  | _ => none
theorem sliceB_spec {h : H} {v : AV} {ns : List Nat} (hs : sliceB h v = some ns) : ∃ b o cp ex, v = .slice b o ns.length cp 1 ex ∧ ns.length ≤ cp ∧ ns.length < 1000000 ∧ (∀ x ∈ ns, x < 256) ∧ LB h b o ns := by
  unfold sliceB at hs
  split at hs
  · rename_i b o n cp ex
    rw [Bool.cond_eq_ite] at hs
    split at hs
    · rename_i hc
      simp only [Bool.and_eq_true, Nat.ble_eq, Nat.blt_eq] at hc
      split at hs
      · rename_i m c hb
        rw [Bool.cond_eq_ite] at hs
        split at hs
        · rename_i hle
          split at hs
          · rename_i vs hvs
            obtain ⟨h1, h2, h3⟩ := byteL_spec hs
            obtain ⟨h4, h5⟩ := gets_spec hvs
            have hn : ns.length = n := h1.trans h4
            subst hn
            refine ⟨b, o, cp, ex, rfl, hc.1, hc.2, h2, fun i x hx => ?_⟩
            have hi : i < ns.length := (List.getElem?_eq_some_iff.1 hx).1
            exact loadA_cell (by kernel_rfl) hb (by have := Nat.le_of_ble_eq_true hle; omega) (h5 i _ (h3 i x hx))
          · cases hs
        · cases hs
      · cases hs
    · cases hs
  · cases hs
noncomputable def c32S : List AV → H → Option (AV × H)
  | [.int .u32 (.ofNat c), s], h => bif Nat.blt c 4294967296 then (match sliceB h s with
    | some ns => some (.int .u32 (.ofNat (crc32 c ns)), h)
    | none => none) else none
  | _, _ => none
noncomputable def c16S : List AV → H → Option (AV × H)
  | [.int .u16 (.ofNat c), s], h => bif Nat.blt c 65536 then (match sliceB h s with
    | some ns => some (.int .u16 (.ofNat (crc16L ns c)), h)
    | none => none) else none
  | _, _ => none
theorem same_sound {f : FuncId} {args : List AV} {v : AV} {L d : Nat} {h : H} (hc : CS Tryz.prog X00 Sm L d f args h (fun v' h' => v' = v ∧ h = h')) {ι : Io} {w : World} {us : List Value} (r : R ι h w) (hv : VRs ι args us) :
    Calls Tryz.prog f us.toArray w (Ret ι h w v h) := by
  obtain ⟨v', h1, e, rfl, rfl⟩ := hc
  exact (callA_sound ext_none Sm_sound follows_mixed d).fn f args h v' h e ι w us r hv
theorem c32S_sound {args : List AV} {h h' : H} {v : AV} (he : c32S args h = some (v, h')) {ι : Io} {w : World} {us : List Value} (r : R ι h w) (hv : VRs ι args us) : Calls Tryz.prog 110 us.toArray w (Ret ι h w v h') := by
  unfold c32S at he
  split at he
  · rename_i c s
    rw [Bool.cond_eq_ite] at he
    split at he
    · rename_i hcl
      split at he
      · rename_i ns hns; cases he
        obtain ⟨b, o, cp, ex, rfl, g1, g2, g3, g4⟩ := sliceB_spec hns
        exact same_sound (crc32_spec (X := X00) (L := 1000011) (d := 0) Sm_ok c (by simpa using hcl) b o cp ex ns g3 g1 (by omega) (by omega) g4) r hv
      · cases he
    · cases he
  · cases he
theorem c16S_sound {args : List AV} {h h' : H} {v : AV} (he : c16S args h = some (v, h')) {ι : Io} {w : World} {us : List Value} (r : R ι h w) (hv : VRs ι args us) : Calls Tryz.prog 446 us.toArray w (Ret ι h w v h') := by
  unfold c16S at he
  split at he
  · rename_i c s
    rw [Bool.cond_eq_ite] at he
    split at he
    · rename_i hcl
      split at he
      · rename_i ns hns; cases he
        obtain ⟨b, o, cp, ex, rfl, g1, g2, g3, g4⟩ := sliceB_spec hns
        exact same_sound (crc16_spec (X := X00) (L := 1000011) (d := 0) Sm_ok c (by simpa using hcl) b o cp ex ns g3 g1 (by omega) (by omega) g4) r hv
      · cases he
    · cases he
  · cases he
def scrBit (s : Nat) : Nat := (s * 2 % 256) ||| ((s ^^^ s / 4 ^^^ s / 16 ^^^ s / 128) &&& 1)
def scrByte (s : Nat) : Nat := scrBit (scrBit (scrBit (scrBit (scrBit (scrBit (scrBit (scrBit s)))))))
def scrL : Nat → Nat → List AV
  | 0, _ => []
  | n + 1, s => .int .u8 (.ofNat s) :: scrL n (scrByte s)
theorem scrL_bare : ∀ (n s : Nat), ∀ v ∈ scrL n s, v.bare = true
  | 0, _, v, h => by cases h
  | n + 1, s, v, h => by
    rcases List.mem_cons.1 h with rfl | h
    · rfl
    · exact scrL_bare n _ v h
theorem scrL_length : ∀ n s, (scrL n s).length = n
  | 0, _ => rfl
  | n + 1, s => by simp [scrL, scrL_length n]
theorem Ret.rowL {ι : Io} {h h1 : H} {w w' : World} {b n : Nat} {l : List AV} {e : Ending} (r : R ι h w) (hl : l.length = n) (hn : 0 < n) (hb : ∀ v ∈ l, v.bare = true) (hck : chkO (h1.t.at b) (.c n l) = true)
    (ret : Ret ι0 H0 w (.slice b 0 n n 1 false) h1 e w') : Ret ι h w (.slice h.next 0 n n 1 false) (h.new (.cells n (ofL l))) e w' := by
  obtain ⟨ob, k1, k2, k3⟩ := chkO_spec hck
  obtain ⟨v0, hv0⟩ : ∃ v, LO.cell (.c n l) 0 = some v := ⟨l[0]'(by omega), by
    show (bif Nat.blt 0 n then l[0]? else none) = _
    rw [Bool.cond_eq_ite, if_pos (by simpa using hn)]; exact List.getElem?_eq_getElem _⟩
  obtain ⟨n', c', rfl, _⟩ := k3 0 (by rw [hv0]; nofun)
  obtain ⟨rfl, k5⟩ := k2
  have hol : ∀ i, i < n' → (ofL l).at i = l[i]? := fun i hi => by
    unfold ofL
    rw [at_puts, if_pos ⟨Nat.zero_le _, by omega⟩, Nat.sub_zero]
  have hat : ∀ i, i < n' → c'.at i = l[i]? := fun i hi => by rw [k5 i hi, hol i hi]
  have hob : h1.obj b = some (.cells n' c') := by unfold H.obj; rw [k1]
  have := Ret.row r hob (fun i v hi hv' => by
    rw [hat i hi] at hv'
    exact hb v (List.mem_of_getElem? hv')) hn ret
  cases e with
  | returned u =>
    obtain ⟨ι', g1, g2, g3⟩ := this
    have heq : ∀ bb o, (h.new (.cells n' (ofL l))).obj bb = some o → ∃ o', (h.new (.cells n' c')).obj bb = some o' ∧ OEq o o' := by
      intro bb o ho
      rw [H.obj_new _ _ _ (by simp)] at ho ⊢
      split at ho
      · rename_i hbb; cases ho
        rw [if_pos hbb]
        refine ⟨_, rfl, rfl, fun i hi => ?_⟩
        rw [hat i hi, hol i hi]
      · rename_i hbb; rw [if_neg hbb]; exact ⟨o, ho, OEq.refl o⟩
    refine ⟨ι', g1, ⟨fun bb o p h2 h3 => ?_, fun bb bb' o o' p p' h2 h2' h3 h3' he => ?_, g2.fresh, g2.bound, fun bb hbb => ?_⟩, ?_⟩
    · obtain ⟨o', f1, f2⟩ := heq bb o h2
      exact (g2.obj bb o' p f1 h3).eqv f2
    · obtain ⟨o1, f1, _⟩ := heq bb o h2
      obtain ⟨o2, f2, _⟩ := heq bb' o' h2'
      exact g2.inj bb bb' _ _ p p' f1 f2 h3 h3' he
    · cases hb0 : (h.new (.cells n' (ofL l))).obj bb with
      | none => rfl
      | some o =>
        obtain ⟨o', f1, _⟩ := heq bb o hb0
        rw [g2.wf bb hbb] at f1; cases f1
    · refine ⟨g3.ext, g3.next, fun bb hbb hn => ⟨(g3.unreal bb hbb hn).1, ?_⟩, fun bb p o h3 h2 hlt => ?_, g3.os, g3.tape, g3.output, g3.size, g3.frame⟩
      · simp only [H.new, Tr.at_put]; rw [if_neg (by omega)]
      · obtain ⟨o', f1, f2⟩ := heq bb o h2
        obtain ⟨b0, p0, o0, q1, q2, q3, q4⟩ := g3.own bb p o' h3 f1 hlt
        exact ⟨b0, p0, o0, q1, q2, fun hr => q3 (f2.rw ▸ hr), q4⟩
  | _ => exact this.elim
noncomputable def isSeq : Option (AV × H) → Bool
  | some (.slice b o n c z e, h1) => Nat.beq o 0 && Nat.beq n 256 && Nat.beq c 256 && Nat.beq z 1 && boolEq e false && chkO (h1.t.at b) (.c 256 (scrL 256 255))
  | _ => false
set_option maxRecDepth 100000 in
theorem seq_run : isSeq (callF Tryz.prog X00 S00 100000 20 (.fn 353) [.int .i64 (.ofNat 256)] H0) = true := by kernel_rfl
noncomputable def seqS : List AV → H → Option (AV × H)
  | [.int .i64 (.ofNat n)], h => bif Nat.beq n 256 then putsK .nil 0 (scrL 256 255) fun c => some (.slice h.next 0 256 256 1 false, h.new (.cells 256 c)) else none
  | _, _ => none
theorem seqS_sound {args : List AV} {h h' : H} {v : AV} (he : seqS args h = some (v, h')) {ι : Io} {w : World} {us : List Value} (r : R ι h w) (hv : VRs ι args us) : Calls Tryz.prog 353 us.toArray w (Ret ι h w v h') := by
  unfold seqS at he
  split at he
  · rename_i n
    rw [Bool.cond_eq_ite] at he
    split at he
    · rename_i hn
      obtain rfl := Nat.eq_of_beq_eq_true hn
      rw [putsK_eq] at he; cases he
      have h1 := seq_run
      unfold isSeq at h1
      split at h1
      · rename_i b o n c z e h1' hc
        simp only [Bool.and_eq_true] at h1
        obtain ⟨⟨⟨⟨⟨q1, q2⟩, q3⟩, q4⟩, q5⟩, q6⟩ := h1
        obtain rfl := Nat.eq_of_beq_eq_true q1
        obtain rfl := Nat.eq_of_beq_eq_true q2
        obtain rfl := Nat.eq_of_beq_eq_true q3
        obtain rfl := Nat.eq_of_beq_eq_true q4
        obtain rfl := boolEq_eq q5
        rw [callF_eq] at hc
        exact ((callA_sound ext_none sum_none follows_mixed 20).fn 353 _ H0 _ _ hc ι0 w us (R.empty w) (hv.bare rfl)).mono fun e w' ret =>
          Ret.rowL r (scrL_length _ _) (by decide) (scrL_bare _ _) q6 ret
      · cases h1
    · cases he
  · cases he
end Go.Abs

/- The table of summaries with which the mission's ticks are run. No condition. -/
namespace Go.Abs
open Go.Proofs
noncomputable def S1 : Sums := fun f =>
  bif Nat.beq f 22 then some encS else bif Nat.beq f 82 then some repS else bif Nat.beq f 58 then some decS else bif Nat.beq f 446 then some c16S
  else bif Nat.beq f 110 then some c32S else bif Nat.beq f 80 then some masksS else bif Nat.beq f 353 then some seqS else bif Nat.beq f 168 then some sortS else none
theorem S1_sound : SumSound Tryz.prog S1 := by
  intro f s hs args h v h' he ι w us r hv
  unfold S1 at hs
  simp only [Bool.cond_eq_ite] at hs
  split at hs
  · rename_i hf; cases hs; obtain rfl := Nat.eq_of_beq_eq_true hf; exact encS_sound he r hv
  split at hs
  · rename_i hf; cases hs; obtain rfl := Nat.eq_of_beq_eq_true hf; exact repS_sound he r hv
  split at hs
  · rename_i hf; cases hs; obtain rfl := Nat.eq_of_beq_eq_true hf; exact decS_sound he r hv
  split at hs
  · rename_i hf; cases hs; obtain rfl := Nat.eq_of_beq_eq_true hf; exact c16S_sound he r hv
  split at hs
  · rename_i hf; cases hs; obtain rfl := Nat.eq_of_beq_eq_true hf; exact c32S_sound he r hv
  split at hs
  · rename_i hf; cases hs; obtain rfl := Nat.eq_of_beq_eq_true hf; exact masksS_sound he r hv
  split at hs
  · rename_i hf; cases hs; obtain rfl := Nat.eq_of_beq_eq_true hf; exact seqS_sound he r hv
  split at hs
  · rename_i hf; cases hs; obtain rfl := Nat.eq_of_beq_eq_true hf; exact sortS_sound he r hv
  cases hs
end Go.Abs
