/- The model gives what 'pop' says. No condition. -/
import Derived.IntWalk
import Derived.Laws.BytesString
import Derived.MapKept
import Derived.Test.YtkihpcjfhilgcaaGreatZ02
namespace Go.Abs
variable {P : Program} {ι : Io} {F : Fm} {a : Act}
theorem mapEv (hf : FR ι F a.tmps) {s : Sem Next} {x : Operand} {r : PR} (h : (ev F x).map PR.val = some r) (hs : ∀ w, s.run P w = .ok (.value (a.eval x)) w) : PSound P s ι r :=
  PSound.map h fun _v hv => ⟨_, hf.ev hv, hs⟩
theorem row_sound {s : Sem Next} {vs : List AV} {us : Array Value} {e : TypeId} {k : NK} {u : Nat → Value} (hv : VRs ι vs us.toList)
    (hr : ∀ w, s.run P w = .ok (.value (u w.heap.size)) (w.alloc (.cells us e)))
    (hk : ∀ (ι' : Io) (b n : Nat), ι' b = some ⟨n, 0, us.size⟩ → VR ι' (k.val b) (u n)) : PSound P s ι (.new (.cells vs.length (ofL vs)) k) :=
  ⟨.cells us e, us.size, u, by simp, hr, fun ι' b _ n hb => hk ι' b n hb, fun ι' w he => OR.row (hv.mono he) (by rw [hv.len]; simp)⟩
theorem run_newRow' (e : TypeId) (cs : Array Value) (w : World) : (newRow e cs).run P w = .ok ⟨w.heap.size, 0, none⟩ (w.alloc (.cells cs e)) := rfl
theorem run_newVar' (t : TypeId) (v : Value) (w : World) : (newVar t v).run P w = .ok ⟨w.heap.size, 0, none⟩ (w.alloc (.cells v.cells t)) := rfl
theorem vr_slice_new {ι' : Io} {b n len cap sz ext : Nat} (hb : ι' b = some ⟨n, 0, ext⟩) (hl : len ≤ cap) : VR ι' (.slice b 0 len cap sz true) (.slice (some ⟨n, 0, none⟩) len cap) :=
  .slice hl (Nat.le_refl _) (fun _ => rfl) (fun _ => ⟨_, hb, rfl, by simp⟩) (by simp)
theorem wrap_small {n : Nat} (h : n < 9223372036854775808) : IntKind.i64.wrap (Int.ofNat n) = (n : Int) :=
  IntWalk.i64_in _ (by simp only [Int.ofNat_eq_natCast]; omega)
theorem mapM_places (fields : Array Field) (w : World) (h : ∀ f ∈ fields, ∃ n, szo P f.type = some n) :
    ∃ places : Array (Nat × Nat), (fields.mapM (m := Sem) fun f => do pure (f.offset, ← sizeOf f.type)).run P w = .ok places w ∧ placeA P fields = fun i => places[i]? := by
  have key : ∀ (l : List Field), (∀ f ∈ l, ∃ n, szo P f.type = some n) → ∃ places : List (Nat × Nat), (l.mapM (m := Sem) fun f => do pure (f.offset, ← sizeOf f.type)).run P w = .ok places w ∧
      ∀ i : Nat, placeA P l.toArray i = places[i]? := by
    intro l
    induction l with
    | nil => intro _; exact ⟨[], by simp, fun i => by simp [placeA]⟩
    | cons f l ih =>
      intro h
      obtain ⟨n, hn⟩ := h f (by simp)
      obtain ⟨ps, h1, h2⟩ := ih fun g hg => h g (by simp [hg])
      refine ⟨(f.offset, n) :: ps, ?_, fun i => ?_⟩
      · rw [List.mapM_cons, Sem.run_bind]
        have e1 : (do pure (f.offset, ← sizeOf f.type) : Sem (Nat × Nat)).run P w = .ok (f.offset, n) w := by
          rw [Sem.run_bind, (szo_spec hn).2]; rfl
        rw [e1, Result.andThen_ok, Sem.run_bind, h1]; rfl
      · cases i with
        | zero => simp [placeA, hn]
        | succ i => have := h2 i; simpa [placeA] using this
  obtain ⟨ps, h1, h2⟩ := key fields.toList (by simpa using h)
  refine ⟨ps.toArray, ?_, funext fun i => by simpa using h2 i⟩
  rw [Array.mapM_eq_mapM_toList, Sem.run_map, h1]
  rfl
set_option maxHeartbeats 2000000 in
theorem pop_sound (o : Oper) (hf : FR ι F a.tmps) {r : PR} (h : pop P F o.op = some r) : PSound P (execOp a.eval o) ι r := by
  obtain ⟨dst, op, type, pos, after, guard⟩ := o
  cases op <;> simp only [pop, rowP_eq] at h
  case move x => exact mapEv hf h fun w => rfl
  case assign x => exact mapEv hf h fun w => rfl
  case pick c x y =>
    split at h
    · rename_i hc
      have := hf.ev hc
      generalize hcv : a.eval c = cv at this
      cases this
      exact mapEv hf h fun w => by simp [execOp, hcv, asBool]
    · rename_i hc
      have := hf.ev hc
      generalize hcv : a.eval c = cv at this
      cases this
      exact mapEv hf h fun w => by simp [execOp, hcv, asBool]
    · cases h
  case alloc t =>
    split at h
    · rename_i z hz; cases h
      obtain ⟨u, hu, _, hr⟩ := zer_spec (ι := ι) hz
      exact row_sound (e := t) hu.cells (u := fun n => .pointer (some ⟨n, 0, none⟩)) (fun w => by simp [execOp, Instr.alloc, hr, run_newVar'])
        (fun ι' b n hb => VR.ptr (p := ⟨n, 0, _⟩) hb)
    · cases h
  case box t x =>
    split at h
    · rename_i v hv; cases h
      exact row_sound (e := t) (hf.ev hv).cells (u := fun n => .pointer (some ⟨n, 0, none⟩)) (fun w => by simp [execOp, Instr.box, run_newVar'])
        (fun ι' b n hb => VR.ptr (p := ⟨n, 0, _⟩) hb)
    · cases h
  case build t parts =>
    split at h
    · rename_i z fields ps hz hu hps
      split at h
      · rename_i cs hcs
        rw [Bool.cond_eq_ite] at h
        split at h
        · rename_i hall; cases h
          obtain ⟨u, hu', _, hr⟩ := zer_spec (ι := ι) hz
          obtain ⟨hl, hp⟩ := evParts_vr hf hps
          obtain ⟨out, ho1, ho2⟩ := fillA_spec hcs hu'.cells hl hp
          refine PSound.of (VR.agg_iff.2 ⟨_, rfl, ho2⟩) fun w => ?_
          have hmap := mapM_places (P := P) fields w (fun f hf' => by
            have := List.all_eq_true.1 hall f (by simpa using hf')
            exact Option.isSome_iff_exists.1 this)
          obtain ⟨places, hm1, hm2⟩ := hmap
          rw [hm2] at ho1
          simp only [Array.toList_map] at ho1
          simp only [execOp, Instr.build, Sem.run_bind, hr, run_underlying hu, Result.andThen_ok, hm1, Array.toList_map, ho1, Sem.run_pure]
        · cases h
      · cases h
    · rename_i z n e ps hz hu hps
      split at h
      · rename_i s hs
        refine PSound.map (x := (fillA (fun i => some (i * s, s)) z.cells ps).map AV.agg) (by rw [Option.map_map]; exact h) fun v hv => ?_
        cases hcs : fillA (fun i => some (i * s, s)) z.cells ps with
        | none => rw [hcs] at hv; cases hv
        | some cs =>
          rw [hcs] at hv; cases hv
          obtain ⟨u, hu', _, hr⟩ := zer_spec (ι := ι) hz
          obtain ⟨hl, hp⟩ := evParts_vr hf hps
          obtain ⟨out, ho1, ho2⟩ := fillA_spec hcs hu'.cells hl hp
          exact ⟨_, VR.agg_iff.2 ⟨_, rfl, ho2⟩, fun w => by simp at ho1; simp [execOp, Instr.build, hr, run_underlying hu, (szo_spec hs).2, ho1]⟩
      · cases h
    · cases h
  case buildSlice t len parts =>
    split at h
    · rename_i e hu
      split at h
      · rename_i s z ps hs hz hps
        rw [Bool.cond_eq_ite] at h
        split at h
        · rename_i hc
          simp only [Bool.and_eq_true, Nat.ble_eq, Nat.beq_eq, Nat.blt_eq] at hc
          obtain ⟨⟨hc1, hc2⟩, hc3⟩ := hc
          split at h
          · rename_i cs hcs; cases h
            obtain ⟨u, hu', _, hr⟩ := zer_spec (ι := ι) hz
            obtain ⟨hl, hp⟩ := evParts_vr hf hps
            have hsz : u.cells.size = s := by rw [← hc2, hu'.cells.len]; simp
            have hz0 : VRs ι (List.replicate len z.cells).flatten ((Array.range (len * s)).map (fun i => u.cells[i % u.cells.size]!)).toList := by
              rw [zeros_eq u.cells len s hsz hc3]; exact hu'.cells.replicate len
            obtain ⟨out, ho1, ho2⟩ := fillA_spec hcs hz0 hl hp
            refine row_sound ho2 (u := fun n => .slice (some ⟨n, 0, none⟩) len len) (e := e) (fun w => ?_) (fun ι' b n hb => vr_slice_new hb (Nat.le_refl _))
            have hnot : ¬ 2 ^ 24 < len * s := by simpa using hc1
            by_cases h0 : len * s = 0
            · have hlen : len = 0 := by rcases Nat.mul_eq_zero.1 h0 with h | h <;> omega
              subst hlen
              have hr0 : Array.range 0 = #[] := rfl
              simp [hr0] at ho1
              simp [execOp, Instr.buildSlice, run_underlying hu, (szo_spec hs).2, run_newRow', ho1, hr0]
            · simp at ho1
              simp [execOp, Instr.buildSlice, run_underlying hu, (szo_spec hs).2, run_newRow', hnot, h0, hr, ho1]
          · cases h
        · cases h
      · cases h
    · cases h
  case nilCheck x =>
    split at h <;> first
      | (cases h; rename_i hx; have hv := hf.ev hx; generalize hcv : a.eval x = cv at hv; cases hv <;> first
          | exact PSound.of (by first | exact .ptr (by assumption) | exact .map (by assumption) | exact .iface (by assumption) | exact .slice (by assumption) (by assumption) (by assumption) (by assumption) (by assumption) | exact .func (by assumption) (by assumption) (by assumption) (by assumption) (by assumption)) (fun w => by simp [execOp, hcv]))
      | cases h
  case binOp op t x y yt =>
    split at h
    · rename_i p q hp hq
      refine PSound.map h fun v hv => ?_
      obtain ⟨r, h1, h2⟩ := binA_spec (P := P) hv (hf.ev hp) (hf.ev hq)
      refine ⟨r, h1, fun w => ?_⟩
      have := h2 w
      simp only [execOp]
      rw [Sem.run_bind, this]; rfl
    · cases h
  case unOp op t x =>
    split at h
    · rename_i p hp
      split at h
      · rename_i u hu
        obtain hu' := scal_vr hu (hf.ev hp)
        refine PSound.map h fun v hv => ?_
        obtain ⟨z, hz, hv'⟩ := semV_spec hv
        exact ⟨z, hv' ι, fun w => by simp [execOp, hu', hz]⟩
      · cases h
    · cases h
  case convert src dst x =>
    split at h
    · rename_i p hp
      refine PSound.map h fun v hv => ?_
      obtain ⟨r, h1, h2⟩ := convA_spec (P := P) hv (hf.ev hp)
      exact ⟨r, h1, fun w => by simp [execOp, h2]⟩
    · cases h
  case makeInterface t x =>
    split at h
    · cases h
    · rename_i d v hn hu hx; cases h
      refine PSound.of (.iface (hf.ev hx)) fun w => ?_
      simp only [execOp, Instr.makeInterface, Sem.run_bind, run_underlying hu, Result.andThen_ok]
      cases d <;> first | rfl | exact absurd rfl (hn _)
    · cases h
  case makeFunc fn first cap =>
    cases fn <;> simp only at h <;> try (exact absurd h (by simp))
    split at h
    · rename_i x y hx hy; cases h
      have h1 := hf.evs hx
      have h2 := hf.evs hy
      refine PSound.of (u := .func (.func _) (first.map a.eval) (cap.map a.eval)) (.func rfl (by rw [h1.len]; simp) (by rw [h2.len]; simp) (fun i p q h3 h4 => h1.at_ i p q h3 (by simpa using h4)) (fun i p q h3 h4 => h2.at_ i p q h3 (by simpa using h4))) fun w => ?_
      simp [execOp, Instr.makeFunc]
    · cases h
  case makeMap t r =>
    have key : ∀ (s : Sem Next), (∀ w, s.run P w = .ok (.value (.map (some w.heap.size))) (w.alloc (.map #[] 0))) → PSound P s ι (.new (.map [] 0) .map) := fun s hs =>
      ⟨.map #[] 0, 1, fun n => .map (some n), by simp, hs, fun ι' b _ n hb => VR.map (p := ⟨n, 0, 1⟩) hb,
        fun ι' w _ => ⟨#[], heap_alloc_new w _, rfl, fun i e e' h => by simp at h⟩⟩
    cases r with
    | none => simp only at h; cases h; exact key _ fun w => by simp [execOp, Instr.makeMap]
    | some x =>
      simp only at h
      split at h
      · rename_i k e ik n hu hx; cases h
        have hv := hf.ev hx
        generalize hcv : a.eval x = cv at hv
        cases hv
        exact key _ fun w => by simp [execOp, Instr.makeMap, run_underlying hu, asInt, asIntOf, hcv]
      · cases h
  case makeSlice t l c =>
    split at h
    · rename_i e ln cn hu hl hc
      split at h
      · rename_i i z hi hz
        rw [Bool.cond_eq_ite] at h
        split at h
        · rename_i hcond; cases h
          simp only [Bool.and_eq_true, Nat.ble_eq, Nat.beq_eq, Nat.blt_eq] at hcond
          obtain ⟨⟨⟨⟨c1, c2⟩, c3⟩, c4⟩, c5⟩ := hcond
          obtain ⟨u, hu', _, hr⟩ := zer_spec (ι := ι) hz
          have hl' := hf.ev hl
          generalize hlv : a.eval l = lv at hl'
          cases hl'
          have hc' := hf.ev hc
          generalize hcv : a.eval c = cv at hc'
          cases hc'
          have hsz : u.cells.size = i.size := by rw [← c3, hu'.cells.len]; simp
          have hz0 : VRs ι (List.replicate cn z.cells).flatten ((Array.range (cn * i.size)).map (fun j => u.cells[j % u.cells.size]!)).toList := by
            rw [zeros_eq u.cells cn i.size hsz c4]; exact hu'.cells.replicate cn
          have hlen : (List.replicate cn z.cells).flatten.length = cn * i.size := by rw [List.length_flatten]; simp [c3]
          have hrow := row_sound (P := P) (s := execOp a.eval { dst := dst, op := .makeSlice t l c, type := type, pos := pos, after := after, guard := guard })
            (k := .slice ln cn i.size) hz0 (u := fun n => .slice (some ⟨n, 0, none⟩) ln cn) (e := e) (fun w => ?_) (fun ι' b n hb => vr_slice_new hb c1)
          · rw [hlen] at hrow; exact hrow
          · have w1 : IntKind.i64.wrap (ln : Int) = (ln : Int) := wrap_small (by omega)
            have w2 : IntKind.i64.wrap (cn : Int) = (cn : Int) := wrap_small c5
            have b1 : ¬ ((i.bytes : Int) * (cn : Int) > 2 ^ 48) := by
              have : ((i.bytes * cn : Nat) : Int) ≤ ((281474976710656 : Nat) : Int) := Int.ofNat_le.2 c2
              rw [Int.natCast_mul] at this; omega
            have b1' : ¬ ((281474976710656 : Int) < (i.bytes : Int) * (cn : Int)) := by omega
            have b2 : ¬ ((cn : Int) < (ln : Int)) := by omega
            have b3 : ¬ (cn < ln) := by omega
            have b4 : ¬ ((ln : Int) < 0) := by omega
            have b5 : ¬ ((cn : Int) < 0) := by omega
            have hroom : (askRoom (cn * i.bytes)).run P w = .ok () w := by
              unfold askRoom; split <;> rfl
            by_cases h0 : cn * i.size = 0
            · have hcn : cn = 0 := by rcases Nat.mul_eq_zero.1 h0 with h | h <;> omega
              have hln : ln = 0 := by omega
              subst hcn; subst hln
              have hr0 : Array.range 0 = #[] := rfl
              have w0 : IntKind.i64.wrap 0 = 0 := wrap_small (n := 0) (by omega)
              simp [execOp, Instr.makeSlice, run_underlying hu, hlv, hcv, asInt, asIntOf, run_typeInfo w hi, w0, askRoom, sizeOf, run_newRow', hr0]
            · simp [execOp, Instr.makeSlice, run_underlying hu, hlv, hcv, asInt, asIntOf, run_typeInfo w hi, w1, w2, b1', b2, b4, b5, sizeOf, run_newRow', h0, hr]
        · cases h
      · cases h
    · cases h
  case slice t x lo hi mx =>
    split at h
    · rename_i v l hh m hv hl hhh hm
      refine PSound.map h fun r hr => ?_
      obtain ⟨u, h1, h2⟩ := sliceA_spec (P := P) hr (hf.ev hv) (evo_spec hf hl) (evo_spec hf hhh) (evo_spec hf hm)
      exact ⟨u, h1, fun w => by simp [execOp, h2]⟩
    · cases h
  case fieldAddr t x f =>
    split at h
    · rename_i fs b o hu hx
      split at h
      · rename_i fl hfl
        split at h
        · rename_i n hn; cases h
          have hv := hf.ev hx
          generalize hcv : a.eval x = cv at hv
          cases hv with | ptr hp => ?_
          rename_i p
          refine PSound.of (u := .pointer (some ⟨p.blk, p.base + (o + fl.offset), none⟩)) (.ptr hp) fun w => ?_
          simp [execOp, Instr.fieldAt, run_underlying hu, hfl, hcv, Instr.sureAddr, fieldPlace, (szo_spec hn).2, addr_add, Nat.add_assoc]
        · cases h
      · cases h
    · cases h
  case field t x f =>
    split at h
    · rename_i fs cs hu hx
      split at h
      · rename_i fl hfl
        refine PSound.map h fun v hv => ?_
        obtain ⟨us, he, hs⟩ := VR.agg_iff.1 (hf.ev hx)
        obtain ⟨u, h1, h2⟩ := partA_spec (P := P) hv hs
        exact ⟨u, h1, fun w => by simp [execOp, Instr.field, run_underlying hu, hfl, he, asAgg, h2]⟩
      · cases h
    · cases h
  case indexAddr t x i =>
    split at h
    · rename_i n e b o k j hu hx hi
      rw [Bool.cond_eq_ite] at h
      split at h
      · rename_i hlt
        split at h
        · rename_i s hs; cases h
          have hv := hf.ev hx
          generalize hcv : a.eval x = cv at hv
          cases hv with | ptr hp => ?_
          rename_i p
          have hw := hf.ev hi
          generalize hci : a.eval i = ci at hw
          cases hw
          have hlt' : j < n := by simpa using hlt
          refine PSound.of (u := .pointer (some ⟨p.blk, p.base + (o + j * s), none⟩)) (.ptr hp) fun w => ?_
          simp [execOp, Instr.indexAt, run_underlying hu, hcv, hci, Instr.sureAddr, asIntOf, (szo_spec hs).2, addr_add, Nat.add_assoc, hlt']
        · cases h
      · cases h
    · rename_i e b o n c s ex k j hu hx hi
      rw [Bool.cond_eq_ite] at h
      split at h
      · rename_i hlt
        simp only [Bool.and_eq_true, Nat.blt_eq, Nat.ble_eq] at hlt
        obtain ⟨hlt', hlc⟩ := hlt
        split at h
        · rename_i s' hs
          rw [Bool.cond_eq_ite] at h
          split at h
          · rename_i hss; cases h
            have hss' : s = s' := by simpa using hss
            subst hss'
            have hv := hf.ev hx
            generalize hcv : a.eval x = cv at hv
            cases hv with | slice q1 q2 q3 q4 q5 => ?_
            rename_i ad rcap
            obtain ⟨p, hp, ha, _⟩ := q4 (by omega)
            have hw := hf.ev hi
            generalize hci : a.eval i = ci at hw
            cases hw
            refine PSound.of (u := .pointer (some ⟨p.blk, p.base + (o + j * s), none⟩)) (.ptr hp) fun w => ?_
            simp [execOp, Instr.indexAt, run_underlying hu, hcv, hci, asIntOf, (szo_spec hs).2, ha, addr_add, Nat.add_assoc, hlt']
          · cases h
        · cases h
      · cases h
    · cases h
  case index t x i =>
    split at h
    · rename_i n e cs k j hu hx hi
      rw [Bool.cond_eq_ite] at h
      split at h
      · rename_i hlt
        split at h
        · rename_i s hs
          refine PSound.map h fun v hv => ?_
          obtain ⟨us, he, hs'⟩ := VR.agg_iff.1 (hf.ev hx)
          obtain ⟨u, h1, h2⟩ := partA_spec (P := P) hv hs'
          have hw := hf.ev hi
          generalize hci : a.eval i = ci at hw
          cases hw
          have hlt' : j < n := by simpa using hlt
          exact ⟨u, h1, fun w => by simp [execOp, Instr.index, run_underlying hu, he, hci, asIntOf, (szo_spec hs).2, h2, hlt']⟩
        · cases h
      · cases h
    · rename_i s k j hu hx hi
      split at h
      · rename_i b hb; cases h
        have hv := hf.ev hx
        generalize hcv : a.eval x = cv at hv
        cases hv
        have hw := hf.ev hi
        generalize hci : a.eval i = ci at hw
        cases hw
        exact PSound.of (.int _ _) fun w => by simp [execOp, Instr.index, run_underlying hu, hcv, hci, asIntOf, hb]
      · cases h
    · cases h
  case typeAssert x xt t ok =>
    split at h
    · cases h
    · rename_i d t' v h1 hu hx
      rw [Bool.cond_eq_ite] at h
      split at h
      · rename_i he; cases h
        have he' : t' = t := by simpa using he
        subst he'
        have hv := hf.ev hx
        generalize hcv : a.eval x = cv at hv
        cases hv with | iface hv => ?_
        rename_i u
        refine PSound.of (u := if ok then .tuple #[u, .bool true] else u) ?_ fun w => ?_
        · cases ok
          · exact hv
          · exact VR.tup_iff.2 ⟨[u, .bool true], rfl, .cons hv (.cons (.bool _) (.nil _))⟩
        · simp only [execOp, Instr.typeAssert, hcv, Sem.run_bind, run_underlying hu, Result.andThen_ok]
          cases ok <;> simp
      · rename_i he
        have he' : ¬ t' = t := by simpa using he
        rw [Bool.cond_eq_ite] at h
        split at h
        · rename_i hok
          subst hok
          split at h
          · rename_i z hz
            cases h
            obtain ⟨uz, h2, h3, h4⟩ := zer_spec (ι := ι) hz
            have hv := hf.ev hx
            generalize hcv : a.eval x = cv at hv
            cases hv with | iface hv => ?_
            refine PSound.of (u := .tuple #[uz, .bool false]) (VR.tup_iff.2 ⟨[uz, .bool false], rfl, .cons h2 (.cons (.bool _) (.nil _))⟩) fun w => ?_
            simp only [execOp, Instr.typeAssert, hcv, Sem.run_bind, run_underlying hu, Result.andThen_ok]
            simp [he', h4]
          · cases h
        · cases h
    · cases h
  case extract t i =>
    split at h
    · rename_i vs hx
      refine PSound.map h fun v hv => ?_
      obtain ⟨us, he, hs⟩ := VR.tup_iff.1 (hf.ev hx)
      obtain ⟨u, h1, h2⟩ := hs.get hv
      exact ⟨u, h2, fun w => by simp [execOp, Instr.extract, he, h1]⟩
    · cases h
  case call c =>
    obtain ⟨callee, args, ts⟩ := c
    cases callee <;> simp only at h <;> try (exact absurd h (by simp))
    rename_i b
    have run_b : ∀ (f : Array TypeId → TypeId → Array Value → Sem Value) (r : Value), (∀ w, (f ts type (args.map a.eval)).run P w = .ok r w) →
        (∀ c vs, builtin b ts type c vs = (do pure (.value (← f ts type vs)))) → ∀ w, (execOp a.eval { dst := dst, op := .call ⟨.builtin b, args, ts⟩, type := type, pos := pos, after := after, guard := guard }).run P w = .ok (.value r) w := by
      intro f r hr hb w
      simp [execOp, resolve, invoke, hb, hr]
    have hargs : ∀ {vs : List AV}, evs F args.toList = some vs → VRs ι vs (args.map a.eval).toList := fun hvs => by
      have := hf.evs hvs; simpa using this
    cases b <;> simp only at h <;> try (exact absurd h (by simp))
    case cap =>
      split at h
      · rename_i t hx ht
        split at h
        · rename_i e hu; cases h
          obtain ⟨u, us, he, hv, hs⟩ := (hargs hx).head
          obtain rfl := hs.isNil
          have hargs' : args.map a.eval = #[u] := by apply Array.ext'; simpa using he
          cases hv
          refine PSound.of (.int .i64 0) (run_b Builtin.cap_ _ (fun w => ?_) (fun _ _ => rfl))
          rw [hargs']; simp [Builtin.cap_, ht, run_underlying hu, goInt]
        · cases h
      · rename_i b' o n cp s t hx ht
        split at h
        · rename_i e hu; cases h
          obtain ⟨u, us, he, hv, hs⟩ := (hargs hx).head
          obtain rfl := hs.isNil
          have hargs' : args.map a.eval = #[u] := by apply Array.ext'; simpa using he
          cases hv with | slice q1 q2 q3 q4 q5 => ?_
          rename_i ad rcap
          obtain rfl := q3 rfl
          refine PSound.of (.int .i64 rcap) (run_b Builtin.cap_ _ (fun w => ?_) (fun _ _ => rfl))
          rw [hargs']; simp [Builtin.cap_, ht, run_underlying hu, goInt]
        · cases h
      · cases h
    case len =>
      split at h
      · rename_i x t hx ht
        refine PSound.map h fun v hv => ?_
        obtain ⟨u, us, he, hv', hs⟩ := (hargs hx).head
        obtain rfl := hs.isNil
        have hargs' : args.map a.eval = #[u] := by apply Array.ext'; simpa using he
        obtain ⟨r, h1, h2⟩ := lenA_spec (P := P) hv hv' ts ht type
        exact ⟨r, h1, run_b Builtin.len_ r (fun w => by rw [hargs']; exact h2 w) (fun _ _ => rfl)⟩
      · cases h
    case max =>
      split at h
      · rename_i vs hx
        refine PSound.map h fun v hv => ?_
        obtain ⟨r, h1, h2⟩ := maxA_spec (P := P) hv (hargs hx) ts type
        exact ⟨r, h1, run_b Builtin.max_ r (fun w => by have := h2 w; rwa [Array.toArray_toList] at this) (fun _ _ => rfl)⟩
      · cases h
    case min =>
      split at h
      · rename_i vs hx
        refine PSound.map h fun v hv => ?_
        obtain ⟨r, h1, h2⟩ := minA_spec (P := P) hv (hargs hx) ts type
        exact ⟨r, h1, run_b Builtin.min_ r (fun w => by have := h2 w; rwa [Array.toArray_toList] at this) (fun _ _ => rfl)⟩
      · cases h
  all_goals (exact absurd h (by simp))
end Go.Abs

/- Operations that read the heap. No condition. -/
namespace Go.Abs
noncomputable def loadA (P : Program) (h : H) (t : TypeId) (b o : Nat) : Option AV :=
  match h.obj b with
  | some (.cells n c) => match isAg P t with
    | some true => match szo P t with
      | some m => bif Nat.ble (o + m) n then (match gets c o m with | some vs => some (.agg vs) | none => none) else none
      | none => none
    | some false => bif Nat.blt o n then c.at o else none
    | none => none
  | some (.ro c) => match isAg P t with
    | some false => c.at o
    | _ => none
  | _ => none
variable {P : Program} {ι : Io} {F : Fm} {a : Act}
theorem run_getMap {w : World} {r : Nat} {es : Array MapEntry} {cl : Nat} (h : w.heap[r]? = some (.map es cl)) : (getObj r).run P w = .ok (.map es cl) w := by
  simp [getObj, Sem.run, h]
theorem run_getIter {w : World} {r : Nat} {m : Option Nat} {s : Nat} {l : Array Nat} {c : Nat} (h : w.heap[r]? = some (.mapIter m s l c)) : (getObj r).run P w = .ok (.mapIter m s l c) w := by
  simp [getObj, Sem.run, h]
theorem addr_add' (b o n : Nat) : (⟨b, o, none⟩ : Addr).add n = ⟨b, o + n, none⟩ := addr_add b o n
theorem run_loadCells_at {w : World} {b o : Nat} {us : List Value} (h : ∀ (i : Nat) u, us[i]? = some u → w.cell? ⟨b, o + i, none⟩ = some u) :
    (loadCells ⟨b, o, none⟩ us.length).run P w = .ok us.toArray w :=
  run_loadCells_list w _ us fun j v hj => by rw [addr_add]; exact h j v hj
theorem loadA_spec {h : H} {w : World} (r : R ι h w) {t : TypeId} {b o : Nat} {v : AV} {p : Pl} (hl : loadA P h t b o = some v) (hp : ι b = some p) :
    ∃ u, VR ι v u ∧ (loadVar t ⟨p.blk, p.base + o, none⟩).run P w = .ok u w := by
  unfold loadA at hl
  split at hl
  · rename_i n c hb
    split at hl
    · rename_i ha
      split at hl
      · rename_i m hm
        rw [Bool.cond_eq_ite] at hl
        split at hl
        · rename_i hle
          split at hl
          · rename_i vs hvs; cases hl
            obtain ⟨us, h1, h2, h3⟩ := r.cellsAt hb hp (Nat.le_of_ble_eq_true hle) hvs
            refine ⟨_, VR.agg_iff.2 ⟨us, rfl, h1⟩, ?_⟩
            have := run_loadCells_at (P := P) h3
            rw [h2] at this
            simp [loadVar, isAg_spec ha, (szo_spec hm).2, this]
          · cases hl
        · cases hl
      · cases hl
    · rename_i ha
      rw [Bool.cond_eq_ite] at hl
      split at hl
      · rename_i hlt
        obtain ⟨u, h1, h2⟩ := r.cell hb hp (by simpa using hlt) hl
        exact ⟨u, h2, by simp [loadVar, isAg_spec ha, run_load, h1]⟩
      · cases hl
    · cases hl
  · rename_i c hb
    split at hl
    · rename_i ha
      obtain ⟨u, h1, h2⟩ := r.obj b _ p hb hp o v hl
      exact ⟨u, h2, by simp [loadVar, isAg_spec ha, run_load, h1]⟩
    · cases hl
  · cases hl
def findA (d : TypeDesc) (k : AV) : List Ent → Nat → Option (Option (Nat × AV))
  | [], _ => some none
  | e :: es, i => match scal k, scal e.key with
    | some a, some b => match Instr.sameNow d a b with
      | some true => some (some (i, e.val))
      | some false => findA d k es (i + 1)
      | none => none
    | _, _ => none
def keyOk : TypeDesc → AV → Bool
  | .int k, .int k' _ => k == k'
  | .string, .str _ => true
  | _, _ => false
def EntR (ι : Io) (es : List Ent) (es' : Array MapEntry) : Prop :=
  es.length = es'.size ∧ ∀ (i : Nat) (e : Ent) (e' : MapEntry), es[i]? = some e → es'[i]? = some e' → VR ι e.key e'.key ∧ VR ι e.val e'.val ∧ e.born = e'.born
theorem findA_spec {d : TypeDesc} {k : AV} {u : Value} (hk : VR ι k u) : ∀ {es : List Ent} {es' : List MapEntry} {i : Nat} {r : Option (Nat × AV)}, findA d k es i = some r → es.length = es'.length →
    (∀ (j : Nat) (e : Ent) (e' : MapEntry), es[j]? = some e → es'[j]? = some e' → VR ι e.key e'.key ∧ VR ι e.val e'.val ∧ e.born = e'.born) →
    (match r with
     | none => Instr.findNow d u es' i = some none
     | some (j, v) => ∃ x, Instr.findNow d u es' i = some (some (j, x)) ∧ VR ι v x ∧ i ≤ j ∧ ∃ e e', es[j - i]? = some e ∧ es'[j - i]? = some e' ∧ scal e.key = some e'.key ∧ Instr.sameNow d u e'.key = some true)
  | [], es', i, r, h, hl, hp => by
    cases es' with
    | nil => cases h; rfl
    | cons => simp at hl
  | e :: es, es', i, r, h, hl, hp => by
    cases es' with
    | nil => simp at hl
    | cons e' es' =>
      obtain ⟨g1, g2, g3⟩ := hp 0 e e' rfl rfl
      simp only [findA] at h
      split at h
      · rename_i x y hx hy
        obtain rfl := scal_vr hx hk
        have hy' := scal_vr hy g1
        split at h
        · rename_i hs; cases h
          refine ⟨e'.val, ?_, g2, Nat.le_refl _, e, e', by simp, by simp, by rw [hy, hy'], by rw [hy']; exact hs⟩
          simp only [Instr.findNow]; rw [hy', hs]
        · rename_i hs
          have ih := findA_spec hk (es' := es') h (by simpa using hl) (fun j a b h1 h2 => hp (j + 1) a b (by simpa using h1) (by simpa using h2))
          have hstep : Instr.findNow d u (e' :: es') i = Instr.findNow d u es' (i + 1) := by simp only [Instr.findNow]; rw [hy', hs]
          rw [hstep]
          cases r with
          | none => exact ih
          | some r =>
            obtain ⟨j, v⟩ := r
            obtain ⟨x, h1, h2, h3, e2, e2', h4, h5, h6, h7⟩ := ih
            exact ⟨x, h1, h2, by omega, e2, e2', by rw [show j - i = (j - (i + 1)) + 1 by omega]; simpa using h4, by rw [show j - i = (j - (i + 1)) + 1 by omega]; simpa using h5, h6, h7⟩
        · cases h
      · cases h
theorem keyOk_check {d : TypeDesc} {k : AV} {u : Value} {kt : TypeId} (hd : P.underlying kt = some d) (hk : keyOk d k = true) (hv : VR ι k u) (e : Bool) (n : Nat) (w : World) :
    (Instr.checkKey e (n + 1) kt u).run P w = .ok () w := by
  unfold keyOk at hk
  split at hk
  · cases hv; simp [Instr.checkKey, run_underlying hd]
  · cases hv; simp [Instr.checkKey, run_underlying hd]
  · cases hk
theorem run_findKey' {w : World} {kt : TypeId} {d : TypeDesc} {u : Value} {l : List MapEntry} {x : Option (Nat × Value)} (hd : P.underlying kt = some d) (h : Instr.findNow d u l 0 = some x) :
    (Instr.findKey kt u l).run P w = .ok x w := by
  simp [Instr.findKey, run_underlying hd, h]
def bytesA : List AV → Option (List Int)
  | [] => some []
  | .int .u8 n :: r => match bytesA r with
    | some ns => some (n :: ns)
    | none => none
  | _ => none
theorem bytesA_spec : ∀ {vs : List AV} {ns : List Int} {us : List Value}, bytesA vs = some ns → VRs ι vs us → us = ns.map (Value.int .u8)
  | [], ns, us, h, hv => by cases h; exact hv.isNil
  | v :: vs, ns, us, h, hv => by
    obtain ⟨u, us', rfl, h1, h2⟩ := hv.head
    unfold bytesA at h
    split at h
    · rename_i heq; cases heq
    · rename_i n r heq
      cases heq
      split at h
      · rename_i ns' hns; cases h; cases h1
        simp [bytesA_spec hns h2]
      · cases h
    · cases h
noncomputable def entsA (h : H) : AV → Option (List Ent)
  | .mnil => some []
  | .map r => match h.obj r with
    | some (.map es _) => some es
    | _ => none
  | _ => none
noncomputable def dop (P : Program) (F : Fm) (h : H) : Op → Option AV
  | .convert src dst x => match P.underlying src, P.underlying dst, ev F x with
    | some (.slice e), some .string, some v => match P.underlying e, szo P e with
      | some (.int .u8), some 1 => match v with
        | .snil => some (.str .empty)
        | .slice b o n c 1 _ => bif Nat.blt 0 n && Nat.ble n c then (match h.obj b with
          | some (.cells m cs) => bif Nat.ble (o + n) m then (match gets cs o n with
            | some vs => match bytesA vs with
              | some ns => some (.str ⟨(ns.map fun n => UInt8.ofNat n.toNat).toArray⟩)
              | none => none
            | none => none) else none
          | some (.ro cs) => (match gets cs o n with
            | some vs => match bytesA vs with
              | some ns => some (.str ⟨(ns.map fun n => UInt8.ofNat n.toNat).toArray⟩)
              | none => none
            | none => none)
          | _ => none) else bif Nat.beq n 0 then some (.str .empty) else none
        | _ => none
      | _, _ => none
    | _, _, _ => none
  | .lookup t x i ok => match P.underlying t, ev F x, ev F i with
    | some (.map kt e), some m, some k => match P.underlying kt with
      | some d => bif keyOk d k then
          (match entsA h m with
          | some es => match findA d k es 0 with
            | some (some (_, v)) => some (bif ok then .tup [v, .bool true] else v)
            | some none => match zer P e with
              | some z => some (bif ok then .tup [z, .bool false] else z)
              | none => none
            | none => none
          | none => none) else none
      | none => none
    | _, _, _ => none
  | .entry x => match ev F x with
    | some (.ptr r 0) => match h.obj r with
      | some (.iter (some m) _ seen stepped) => match seen.getLast?, h.obj m with
        | some stamp, some (.map es clock) => bif Nat.beq clock stepped then (match es.find? (fun e => Nat.beq e.born stamp) with | some e => some (.tup [e.key, e.val]) | none => none) else none
        | _, _ => none
      | _ => none
    | _ => none
  | .call c => match c.callee with
    | .builtin .len => match evs F c.args.toList, c.argTypes[0]? with
      | some [.map r], some t => match P.underlying t, h.obj r with
        | some (.map _ _), some (.map es _) => some (.int .i64 es.length)
        | _, _ => none
      | _, _ => none
    | _ => none
  | _ => none
end Go.Abs

/- Operations that read the heap: the model gives what 'dop' says. No condition. -/
namespace Go.Abs
variable {P : Program} {ι : Io} {F : Fm} {a : Act}
theorem foldl_push (ns : List Int) : ns.foldl (fun r n => r.push (UInt8.ofNat n.toNat)) ByteArray.empty = ⟨(ns.map fun n => UInt8.ofNat n.toNat).toArray⟩ := by
  have key : ∀ (ns : List Int) (s : ByteArray), ns.foldl (fun r n => r.push (UInt8.ofNat n.toNat)) s = ⟨s.data ++ (ns.map fun n => UInt8.ofNat n.toNat).toArray⟩ := by
    intro ns
    induction ns with
    | nil => intro s; obtain ⟨d⟩ := s; simp
    | cons n ns ih =>
      intro s
      obtain ⟨d⟩ := s
      simp only [List.foldl_cons, ih, List.map_cons]
      simp [ByteArray.push]
  rw [key]
  show (⟨#[] ++ _⟩ : ByteArray) = _
  simp
theorem EntR.at {es : List Ent} {es' : Array MapEntry} (h : EntR ι es es') {i : Nat} {e : Ent} (he : es[i]? = some e) : ∃ e', es'[i]? = some e' ∧ VR ι e.key e'.key ∧ VR ι e.val e'.val ∧ e.born = e'.born := by
  have hlt : i < es'.size := h.1 ▸ (List.getElem?_eq_some_iff.1 he).1
  exact ⟨es'[i], by simp [hlt], h.2 i e _ he (by simp [hlt])⟩
theorem R.mapAt {h : H} {w : World} (r : R ι h w) {b : Nat} {es : List Ent} {cl : Nat} {p : Pl} (hb : h.obj b = some (.map es cl)) (hp : ι b = some p) :
    ∃ es', w.heap[p.blk]? = some (.map es' cl) ∧ EntR ι es es' := by
  obtain ⟨es', h1, h2, h3⟩ := r.obj b _ p hb hp
  exact ⟨es', h1, h2, h3⟩
theorem find_born {es : List Ent} {es' : List MapEntry} (hl : es.length = es'.length)
    (hp : ∀ (j : Nat) (e : Ent) (e' : MapEntry), es[j]? = some e → es'[j]? = some e' → VR ι e.key e'.key ∧ VR ι e.val e'.val ∧ e.born = e'.born) (stamp : Nat) {e : Ent}
    (h : es.find? (fun e => Nat.beq e.born stamp) = some e) : ∃ e', es'.find? (fun e => e.born == stamp) = some e' ∧ VR ι e.key e'.key ∧ VR ι e.val e'.val := by
  induction es generalizing es' with
  | nil => simp at h
  | cons x es ih =>
    cases es' with
    | nil => simp at hl
    | cons x' es' =>
      obtain ⟨g1, g2, g3⟩ := hp 0 x x' rfl rfl
      have hb : Nat.beq x.born stamp = (x'.born == stamp) := by rw [g3, Bool.eq_iff_iff]; simp
      simp only [List.find?_cons, hb] at h ⊢
      cases hc : (x'.born == stamp) with
      | true => rw [hc] at h; cases h; exact ⟨x', rfl, g1, g2⟩
      | false =>
        rw [hc] at h
        exact ih (by simpa using hl) (fun j a b h1 h2 => hp (j + 1) a b (by simpa using h1) (by simpa using h2)) h
set_option maxHeartbeats 1000000 in
theorem dop_sound (o : Oper) (hf : FR ι F a.tmps) {h : H} {w : World} (r : R ι h w) {v : AV} (hd : dop P F h o.op = some v) : ∃ u, VR ι v u ∧ (execOp a.eval o).run P w = .ok (.value u) w := by
  obtain ⟨dst, op, type, pos, after, guard⟩ := o
  cases op <;> simp only [dop] at hd
  case convert src dst' x =>
    split at hd
    · rename_i e p hs ht hx
      split at hd
      · rename_i he hsz
        have hv := hf.ev hx
        generalize hcv : a.eval x = cv at hv
        have hconv : ∀ {s : ByteArray}, (Conv.bytesToString cv).run P w = .ok (.string s) w → (∀ i : IntKind × Int, cv ≠ .int i.1 i.2) → (∀ s : ByteArray, cv ≠ .string s) →
            (execOp a.eval { dst := dst, op := .convert src dst' x, type := type, pos := pos, after := after, guard := guard }).run P w = .ok (.value (.string s)) w := by
          intro s h1 h2 h3
          have : (convert src dst' cv).run P w = .ok (.string s) w := by
            simp only [convert, Sem.run_bind, run_underlying hs, run_underlying ht, Result.andThen_ok]
            cases cv <;> first
              | (simp only [Sem.run_bind, run_underlying he, Result.andThen_ok]; exact h1)
              | exact absurd rfl (h2 (_, _))
              | exact absurd rfl (h3 _)
          simp [execOp, hcv, this]
        split at hd
        · cases hd; cases hv
          exact ⟨_, .str _, hconv (by simp [Conv.bytesToString]) (by simp) (by simp)⟩
        · rename_i b o' n c ex
          cases hv with | slice q1 q2 q3 q4 q5 => ?_
          rename_i ad rcap
          rw [Bool.cond_eq_ite] at hd
          split at hd
          · rename_i hc0
            simp only [Bool.and_eq_true, Nat.blt_eq, Nat.ble_eq] at hc0
            split at hd
            · rename_i m cs hb
              rw [Bool.cond_eq_ite] at hd
              split at hd
              · rename_i hle
                split at hd
                · rename_i vs hvs
                  split at hd
                  · rename_i ns hns; cases hd
                    obtain ⟨p, hp, had, _⟩ := q4 (by omega)
                    obtain ⟨us, h1, h2, h3⟩ := r.cellsAt hb hp (Nat.le_of_ble_eq_true hle) hvs
                    have hus := bytesA_spec hns h1
                    have hload := run_loadCells_at (P := P) h3
                    rw [h2] at hload
                    refine ⟨_, .str _, hconv ?_ (by simp) (by simp)⟩
                    rw [had]
                    rw [run_bytesToString w _ n rcap ns (by rw [hload, hus])]
                    rw [foldl_push]
                  · cases hd
                · cases hd
              · cases hd
            · rename_i cs hb
              split at hd
              · rename_i vs hvs
                split at hd
                · rename_i ns hns; cases hd
                  obtain ⟨p, hp, had, _⟩ := q4 (by omega)
                  obtain ⟨us, h1, h2, h3⟩ := r.cellsAtRo hb hp hvs
                  have hus := bytesA_spec hns h1
                  have hload := run_loadCells_at (P := P) h3
                  rw [h2] at hload
                  refine ⟨_, .str _, hconv ?_ (by simp) (by simp)⟩
                  rw [had]
                  rw [run_bytesToString w _ n rcap ns (by rw [hload, hus])]
                  rw [foldl_push]
                · cases hd
              · cases hd
            · cases hd
          · rw [Bool.cond_eq_ite] at hd
            split at hd
            · rename_i h0; cases hd
              have hn : n = 0 := by simpa using h0
              subst hn
              refine ⟨_, .str _, hconv ?_ (by simp) (by simp)⟩
              have := run_bytesToString (P := P) w ad 0 rcap [] (by simp [loadCells, loadCellsFrom])
              simpa using this
            · cases hd
        · cases hd
      · cases hd
    · cases hd
  case lookup t x i ok =>
    split at hd
    · rename_i kt e m k hu hm hk
      split at hd
      · rename_i d hdk
        rw [Bool.cond_eq_ite] at hd
        split at hd
        · rename_i hkey
          have hvm := hf.ev hm
          generalize hcm : a.eval x = cm at hvm
          have hvk := hf.ev hk
          generalize hck : a.eval i = ck at hvk
          -- the entries
          have entries : ∀ {es : List Ent}, entsA h m = some es →
              ∃ es' : Array MapEntry, EntR ι es es' ∧ ((cm = .map none ∧ es' = #[]) ∨ ∃ rr cl, cm = .map (some rr) ∧ w.heap[rr]? = some (.map es' cl)) := by
            intro es he
            cases hvm <;> simp only [entsA] at he <;> try (cases he; done)
            · rename_i rr p hp
              split at he
              · rename_i es2 cl hob; cases he
                obtain ⟨es', h1, h2⟩ := r.mapAt hob hp
                exact ⟨es', h2, .inr ⟨_, _, rfl, h1⟩⟩
              · cases he
            · cases he
              exact ⟨#[], ⟨rfl, fun i e e' h => by simp at h⟩, .inl ⟨rfl, rfl⟩⟩
          split at hd
          · rename_i es hes
            obtain ⟨es', he1, he2⟩ := entries hes
            split at hd
            · rename_i j vv hfind; cases hd
              obtain ⟨xx, g1, g2, _⟩ := findA_spec hvk (es' := es'.toList) hfind (by simpa using he1.1) (fun j e e' h1 h2 => he1.2 j e e' h1 (by simpa using h2))
              refine ⟨if ok then .tuple #[xx, .bool true] else xx, ?_, ?_⟩
              · cases ok
                · exact g2
                · exact VR.tup_iff.2 ⟨[xx, .bool true], rfl, .cons g2 (.cons (.bool _) (.nil _))⟩
              · rcases he2 with ⟨rfl, rfl⟩ | ⟨rr, cl, rfl, hm'⟩
                · cases ok <;> simp [execOp, Instr.lookup, run_underlying hu, hcm, hck, keyOk_check hdk hkey hvk true 9999, run_findKey' hdk g1]
                · cases ok <;> simp [execOp, Instr.lookup, run_underlying hu, hcm, hck, run_getMap hm', keyOk_check hdk hkey hvk es'.isEmpty 9999, run_findKey' hdk g1]
            · rename_i hfind
              split at hd
              · rename_i z hz; cases hd
                obtain ⟨zz, hz1, _, hz2⟩ := zer_spec (ι := ι) hz
                have g1 := findA_spec hvk (es' := es'.toList) hfind (by simpa using he1.1) (fun j e e' h1 h2 => he1.2 j e e' h1 (by simpa using h2))
                refine ⟨if ok then .tuple #[zz, .bool false] else zz, ?_, ?_⟩
                · cases ok
                  · exact hz1
                  · exact VR.tup_iff.2 ⟨[zz, .bool false], rfl, .cons hz1 (.cons (.bool _) (.nil _))⟩
                · rcases he2 with ⟨rfl, rfl⟩ | ⟨rr, cl, rfl, hm'⟩
                  · cases ok <;> simp [execOp, Instr.lookup, run_underlying hu, hcm, hck, keyOk_check hdk hkey hvk true 9999, run_findKey' hdk g1, hz2]
                  · cases ok <;> simp [execOp, Instr.lookup, run_underlying hu, hcm, hck, run_getMap hm', keyOk_check hdk hkey hvk es'.isEmpty 9999, run_findKey' hdk g1, hz2]
              · cases hd
            · cases hd
          · cases hd
        · cases hd
      · cases hd
    · cases hd
  case entry x =>
    split at hd
    · rename_i rr hx
      split at hd
      · rename_i m since seen stepped hob
        split at hd
        · rename_i stamp es clock hlast hobm
          rw [Bool.cond_eq_ite] at hd
          split at hd
          · rename_i hcl
            have hcl' : clock = stepped := by simpa using hcl
            split at hd
            · rename_i e hfind; cases hd
              have hv := hf.ev hx
              generalize hcv : a.eval x = cv at hv
              cases hv with | ptr hp => ?_
              rename_i p
              obtain ⟨m', h1, h2, hbase⟩ := r.obj _ _ p hob hp
              cases m' with
              | none => exact h2.elim
              | some m' =>
                obtain ⟨q, hq1, hq2⟩ := h2
                subst hq2
                obtain ⟨es', h3, h4⟩ := r.mapAt hobm hq1
                obtain ⟨e', h5, h6, h7⟩ := find_born (ι := ι) (es' := es'.toList) (by simpa using h4.1) (fun j e e' g1 g2 => h4.2 j e e' g1 (by simpa using g2)) stamp hfind
                refine ⟨.tuple #[e'.key, e'.val], VR.tup_iff.2 ⟨[e'.key, e'.val], rfl, .cons h6 (.cons h7 (.nil _))⟩, ?_⟩
                have hlast' : seen.toArray.back? = some stamp := by simpa using hlast
                have h5' : es'.find? (fun e => e.born == stamp) = some e' := by rw [← Array.find?_toList]; exact h5
                have hent : (Instr.entry (.pointer (some ⟨p.blk, p.base + 0, none⟩))).run P w = .ok (.tuple #[e'.key, e'.val]) w := by
                  simp [Instr.entry, hbase, run_getIter h1, hlast', run_getMap h3, hcl', h5']
                simp only [execOp, hcv, Sem.run_bind, hent, Result.andThen_ok, Sem.run_pure]
            · cases hd
          · cases hd
        · cases hd
      · cases hd
    · cases hd
  case call c =>
    obtain ⟨callee, args, ts⟩ := c
    cases callee <;> simp only at hd <;> try (exact absurd hd (by simp))
    rename_i b
    cases b <;> simp only at hd <;> try (exact absurd hd (by simp))
    split at hd
    · rename_i rr t hx ht
      split at hd
      · rename_i k e es cl hu hob; cases hd
        have hargs := hf.evs hx
        obtain ⟨u, us, he, hv, hs⟩ := hargs.head
        obtain rfl := hs.isNil
        have hargs' : args.map a.eval = #[u] := by apply Array.ext'; simpa using he
        cases hv with | map hp => ?_
        obtain ⟨es', h1, h2⟩ := r.mapAt hob hp
        refine ⟨.int .i64 es.length, .int _ _, ?_⟩
        have : (Builtin.len_ ts type (args.map a.eval)).run P w = .ok (.int .i64 es.length) w := by
          rw [hargs']
          simp [Builtin.len_, ht, run_underlying hu, run_getMap h1, goInt, h2.1]
        simp [execOp, resolve, invoke, builtin, this]
      · cases hd
    · cases hd
  all_goals (exact absurd hd (by simp))
end Go.Abs
