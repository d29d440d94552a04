/- The moves that are handed in, read; and read again in a memory that holds the same. No condition. -/
import Derived.Handed
import Derived.JoinedCond
import Derived.JoinedOf
import Derived.OpenShut
import Derived.ProofKit
import Derived.Test.YtkihpcjfhilgcaaGreatRows
import Derived.Test.YtkihpcjfhilgcaaGreatU02
import Derived.Test.YtkihpcjfhilgcaaGreatU11
namespace Go.Abs
open Go.Proofs Go.ChangeShapes Go.WideShapes Go.Deep Go.Joins
theorem cells43 : Tryz.prog.cellsOf 43 = 6 := by kernel_rfl
theorem cells53 : Tryz.prog.cellsOf 53 = 4 := by kernel_rfl
section
variable {H : Type} {enc : TypeId × Value → H} {P : Program} {w : World} {base : Nat} {spare : Nat → Bool} {held : Bool}
theorem list4U {α : Type} {cs : List α} (h : cs.length = 4) : ∃ c0 c1 c2 c3, cs = [c0, c1, c2, c3] := by
  match cs, h with
  | [c0, c1, c2, c3], _ => exact ⟨c0, c1, c2, c3, rfl⟩
theorem open_cells4 {t : TypeId} {f0 f1 f2 f3 : Field} {cs : List Value} {x : DataW H × List MemPlace} {fuel : Nat} (hs : P.underlying t = some (.struct #[f0, f1, f2, f3])) (hone : oneCellFields P #[f0, f1, f2, f3] = true) (hC : P.cellsOf t = 4)
    (h : DataW.trod enc P w base spare held fuel t cs = some x) :
    ∃ (v0 v1 v2 v3 : Value) (y0 y1 y2 y3 : DataW H × List MemPlace) (n : Nat), cs = [v0, v1, v2, v3] ∧ x = (.agg [y0.1, y1.1, y2.1, y3.1], y0.2 ++ (y1.2 ++ (y2.2 ++ y3.2))) ∧
      DataW.trod enc P w base spare held n f0.type [v0] = some y0 ∧ DataW.trod enc P w base spare held n f1.type [v1] = some y1 ∧ DataW.trod enc P w base spare held n f2.type [v2] = some y2 ∧ DataW.trod enc P w base spare held n f3.type [v3] = some y3 := by
  obtain ⟨xs, n, _, hx, hcl, hlen, hf⟩ := DataW.trod_struct hs h
  obtain ⟨c0, c1, c2, c3, rfl⟩ := list4U (hcl.trans hC)
  obtain ⟨y0, y1, y2, y3, rfl⟩ := list4U hlen
  have h0 := hf 0 f0 rfl
  have h1 := hf 1 f1 rfl
  have h2 := hf 2 f2 rfl
  have h3 := hf 3 f3 rfl
  obtain ⟨o0, k0⟩ := hone_of hone 0 f0 rfl
  obtain ⟨o1, k1⟩ := hone_of hone 1 f1 rfl
  obtain ⟨o2, k2⟩ := hone_of hone 2 f2 rfl
  obtain ⟨o3, k3⟩ := hone_of hone 3 f3 rfl
  rw [o0, k0] at h0
  rw [o1, k1] at h1
  rw [o2, k2] at h2
  rw [o3, k3] at h3
  exact ⟨c0, c1, c2, c3, y0, y1, y2, y3, n, rfl, by rw [hx]; simp, h0, h1, h2, h3⟩
theorem shut_cells4 {t : TypeId} {f0 f1 f2 f3 : Field} {v0 v1 v2 v3 : Value} {y0 y1 y2 y3 : DataW H × List MemPlace} (hs : P.underlying t = some (.struct #[f0, f1, f2, f3])) (hone : oneCellFields P #[f0, f1, f2, f3] = true) (hC : P.cellsOf t = 4)
    (t0 : ∃ n, DataW.trod enc P w base spare held n f0.type [v0] = some y0) (t1 : ∃ n, DataW.trod enc P w base spare held n f1.type [v1] = some y1) (t2 : ∃ n, DataW.trod enc P w base spare held n f2.type [v2] = some y2) (t3 : ∃ n, DataW.trod enc P w base spare held n f3.type [v3] = some y3) :
    ∃ n, DataW.trod enc P w base spare held n t [v0, v1, v2, v3] = some (.agg [y0.1, y1.1, y2.1, y3.1], y0.2 ++ (y1.2 ++ (y2.2 ++ y3.2))) := by
  obtain ⟨n0, t0⟩ := t0
  obtain ⟨n1, t1⟩ := t1
  obtain ⟨n2, t2⟩ := t2
  obtain ⟨n3, t3⟩ := t3
  have t0 := DataW.trod_le (show n0 ≤ n0 + n1 + n2 + n3 by omega) t0
  have t1 := DataW.trod_le (show n1 ≤ n0 + n1 + n2 + n3 by omega) t1
  have t2 := DataW.trod_le (show n2 ≤ n0 + n1 + n2 + n3 by omega) t2
  have t3 := DataW.trod_le (show n3 ≤ n0 + n1 + n2 + n3 by omega) t3
  obtain ⟨o0, k0⟩ := hone_of hone 0 f0 rfl
  obtain ⟨o1, k1⟩ := hone_of hone 1 f1 rfl
  obtain ⟨o2, k2⟩ := hone_of hone 2 f2 rfl
  obtain ⟨o3, k3⟩ := hone_of hone 3 f3 rfl
  have := trod_struct_mk (enc := enc) (w := w) (base := base) (spare := spare) (held := held) (n := n0 + n1 + n2 + n3) (cs := [v0, v1, v2, v3]) (xs := [y0, y1, y2, y3]) hs (by simp [hC]) (by simp [o0, k0, o1, k1, o2, k2, o3, k3, t0, t1, t2, t3])
  exact ⟨_, by simpa using this⟩
theorem list6U {α : Type} {cs : List α} (h : cs.length = 6) : ∃ c0 c1 c2 c3 c4 c5, cs = [c0, c1, c2, c3, c4, c5] := by
  match cs, h with
  | [c0, c1, c2, c3, c4, c5], _ => exact ⟨c0, c1, c2, c3, c4, c5, rfl⟩
theorem open_cells6 {t : TypeId} {f0 f1 f2 f3 f4 f5 : Field} {cs : List Value} {x : DataW H × List MemPlace} {fuel : Nat} (hs : P.underlying t = some (.struct #[f0, f1, f2, f3, f4, f5])) (hone : oneCellFields P #[f0, f1, f2, f3, f4, f5] = true) (hC : P.cellsOf t = 6)
    (h : DataW.trod enc P w base spare held fuel t cs = some x) :
    ∃ (v0 v1 v2 v3 v4 v5 : Value) (y0 y1 y2 y3 y4 y5 : DataW H × List MemPlace) (n : Nat), cs = [v0, v1, v2, v3, v4, v5] ∧ x = (.agg [y0.1, y1.1, y2.1, y3.1, y4.1, y5.1], y0.2 ++ (y1.2 ++ (y2.2 ++ (y3.2 ++ (y4.2 ++ y5.2))))) ∧
      DataW.trod enc P w base spare held n f0.type [v0] = some y0 ∧ DataW.trod enc P w base spare held n f1.type [v1] = some y1 ∧ DataW.trod enc P w base spare held n f2.type [v2] = some y2 ∧ DataW.trod enc P w base spare held n f3.type [v3] = some y3 ∧ DataW.trod enc P w base spare held n f4.type [v4] = some y4 ∧ DataW.trod enc P w base spare held n f5.type [v5] = some y5 := by
  obtain ⟨xs, n, _, hx, hcl, hlen, hf⟩ := DataW.trod_struct hs h
  obtain ⟨c0, c1, c2, c3, c4, c5, rfl⟩ := list6U (hcl.trans hC)
  obtain ⟨y0, y1, y2, y3, y4, y5, rfl⟩ := list6U hlen
  have h0 := hf 0 f0 rfl
  have h1 := hf 1 f1 rfl
  have h2 := hf 2 f2 rfl
  have h3 := hf 3 f3 rfl
  have h4 := hf 4 f4 rfl
  have h5 := hf 5 f5 rfl
  obtain ⟨o0, k0⟩ := hone_of hone 0 f0 rfl
  obtain ⟨o1, k1⟩ := hone_of hone 1 f1 rfl
  obtain ⟨o2, k2⟩ := hone_of hone 2 f2 rfl
  obtain ⟨o3, k3⟩ := hone_of hone 3 f3 rfl
  obtain ⟨o4, k4⟩ := hone_of hone 4 f4 rfl
  obtain ⟨o5, k5⟩ := hone_of hone 5 f5 rfl
  rw [o0, k0] at h0
  rw [o1, k1] at h1
  rw [o2, k2] at h2
  rw [o3, k3] at h3
  rw [o4, k4] at h4
  rw [o5, k5] at h5
  exact ⟨c0, c1, c2, c3, c4, c5, y0, y1, y2, y3, y4, y5, n, rfl, by rw [hx]; simp, h0, h1, h2, h3, h4, h5⟩
theorem shut_cells6 {t : TypeId} {f0 f1 f2 f3 f4 f5 : Field} {v0 v1 v2 v3 v4 v5 : Value} {y0 y1 y2 y3 y4 y5 : DataW H × List MemPlace} (hs : P.underlying t = some (.struct #[f0, f1, f2, f3, f4, f5])) (hone : oneCellFields P #[f0, f1, f2, f3, f4, f5] = true) (hC : P.cellsOf t = 6)
    (t0 : ∃ n, DataW.trod enc P w base spare held n f0.type [v0] = some y0) (t1 : ∃ n, DataW.trod enc P w base spare held n f1.type [v1] = some y1) (t2 : ∃ n, DataW.trod enc P w base spare held n f2.type [v2] = some y2) (t3 : ∃ n, DataW.trod enc P w base spare held n f3.type [v3] = some y3) (t4 : ∃ n, DataW.trod enc P w base spare held n f4.type [v4] = some y4) (t5 : ∃ n, DataW.trod enc P w base spare held n f5.type [v5] = some y5) :
    ∃ n, DataW.trod enc P w base spare held n t [v0, v1, v2, v3, v4, v5] = some (.agg [y0.1, y1.1, y2.1, y3.1, y4.1, y5.1], y0.2 ++ (y1.2 ++ (y2.2 ++ (y3.2 ++ (y4.2 ++ y5.2))))) := by
  obtain ⟨n0, t0⟩ := t0
  obtain ⟨n1, t1⟩ := t1
  obtain ⟨n2, t2⟩ := t2
  obtain ⟨n3, t3⟩ := t3
  obtain ⟨n4, t4⟩ := t4
  obtain ⟨n5, t5⟩ := t5
  have t0 := DataW.trod_le (show n0 ≤ n0 + n1 + n2 + n3 + n4 + n5 by omega) t0
  have t1 := DataW.trod_le (show n1 ≤ n0 + n1 + n2 + n3 + n4 + n5 by omega) t1
  have t2 := DataW.trod_le (show n2 ≤ n0 + n1 + n2 + n3 + n4 + n5 by omega) t2
  have t3 := DataW.trod_le (show n3 ≤ n0 + n1 + n2 + n3 + n4 + n5 by omega) t3
  have t4 := DataW.trod_le (show n4 ≤ n0 + n1 + n2 + n3 + n4 + n5 by omega) t4
  have t5 := DataW.trod_le (show n5 ≤ n0 + n1 + n2 + n3 + n4 + n5 by omega) t5
  obtain ⟨o0, k0⟩ := hone_of hone 0 f0 rfl
  obtain ⟨o1, k1⟩ := hone_of hone 1 f1 rfl
  obtain ⟨o2, k2⟩ := hone_of hone 2 f2 rfl
  obtain ⟨o3, k3⟩ := hone_of hone 3 f3 rfl
  obtain ⟨o4, k4⟩ := hone_of hone 4 f4 rfl
  obtain ⟨o5, k5⟩ := hone_of hone 5 f5 rfl
  have := trod_struct_mk (enc := enc) (w := w) (base := base) (spare := spare) (held := held) (n := n0 + n1 + n2 + n3 + n4 + n5) (cs := [v0, v1, v2, v3, v4, v5]) (xs := [y0, y1, y2, y3, y4, y5]) hs (by simp [hC]) (by simp [o0, k0, o1, k1, o2, k2, o3, k3, o4, k4, o5, k5, t0, t1, t2, t3, t4, t5])
  exact ⟨_, by simpa using this⟩
end
variable {H : Type} {enc : TypeId × Value → H} {W W' : World}
theorem VR.sz {ι : Io} {b o n c s s' : Nat} {u : Value} (h : VR ι (.slice b o n c s true) u) : VR ι (.slice b o n c s' true) u := by
  cases h with
  | slice h1 h2 h3 h4 h5 =>
    exact .slice h1 h2 h3 (fun hr => by obtain ⟨p, a, b, _⟩ := h4 hr; exact ⟨p, a, b, fun e => by cases e⟩) (fun e => by cases e)
theorem slice_parts4 {a : Addr} {len cap : Nat} (hl : len ≤ cap) (hc : 0 < cap → ∃ u, W.cell? a = some u) :
    ∃ b o cp, VR (ioN W.heap.size) (.slice b o len cp 4 true) (.slice (some a) len cap) ∧ len ≤ cp ∧ (0 < cap → b = a.block ∧ o = a.off) := by
  by_cases h0 : cap = 0
  · subst h0
    obtain rfl : len = 0 := by omega
    exact ⟨W.heap.size, 0, 0, VR.sz (s := 1) (absV_vr (by simp [absV])), Nat.le_refl _, fun h => absurd h (Nat.lt_irrefl _)⟩
  · obtain ⟨u, hu⟩ := hc (by omega)
    obtain ⟨h1, h2⟩ := cell_lt hu
    exact ⟨a.block, a.off, cap, VR.sz (s := 1) (absV_vr (by simp [absV, h0, h1, h2, hl])), hl, fun _ => ⟨rfl, rfl⟩⟩
theorem moves_hW {held : Bool} {fuel : Nat} {v : Value} {x : DataW H × List MemPlace} (h : DataW.trod enc Tryz.prog W 0 (fun _ => true) held fuel 44 [v] = some x) :
    ∃ lv N kd wt fu dv dl, VR (ioN W.heap.size) lv v ∧ MvsArg (hW W) lv N kd wt fu dv dl ∧ (N = 0 ∨ ∃ es sp, x.1 = .slice es sp ∧ N = es.length) := by
  rcases open_slice Tryz.underlying44 h with ⟨hcs, _⟩ | ⟨a, len, cap, m, n, D, Pl, hcs, _, hl, hm, hmm, hx, hel⟩
  · obtain rfl : v = .slice none 0 0 := by simpa using hcs
    exact ⟨.snil, 0, fun _ => 0, fun _ => 0, fun _ => false, fun _ => .snil, fun _ => [], .snil, .inl ⟨rfl, rfl⟩, .inl rfl⟩
  · obtain rfl : v = .slice (some a) len cap := by simpa using hcs
    simp only [if_true] at hmm
    subst hmm
    rw [cells53] at hel
    have each : ∀ i, i < m → ∃ q : Int × Int × Bool × AV × List Nat, (W.cell? ((a.add (i * 4)).add 0) = some (.int .i64 q.1)) ∧ (∃ u, W.cell? ((a.add (i * 4)).add 1) = some u ∧ absV W.heap.size u = some q.2.2.2.1 ∧ Img (hW W) q.2.2.2.1 q.2.2.2.2) ∧
        W.cell? ((a.add (i * 4)).add 2) = some (.bool q.2.2.1) ∧ W.cell? ((a.add (i * 4)).add 3) = some (.int .i64 q.2.1) := fun i hi => by
      obtain ⟨cs, c1, c2⟩ := hel i hi
      obtain ⟨_, hln, hce⟩ := World.cells?_some c1
      obtain ⟨v0, v1, v2, v3, y0, y1, y2, y3, n', rfl, _, t0, t1, t2, t3⟩ := open_cells4 Tryz.underlying53 (by kernel_rfl) cells53 c2
      obtain ⟨z0, e0, _, _⟩ := DataW.trod_int Tryz.underlying3 t0
      obtain ⟨s, l, q1, q2, _, _⟩ := img_hW t1
      obtain ⟨b2, e2, _⟩ := DataW.trod_bool Tryz.underlying4 t2
      obtain ⟨z3, e3, _, _⟩ := DataW.trod_int Tryz.underlying3 t3
      obtain rfl : v0 = .int .i64 z0 := by simpa using e0
      obtain rfl : v2 = .bool b2 := by simpa using e2
      obtain rfl : v3 = .int .i64 z3 := by simpa using e3
      exact ⟨(z0, z3, b2, s, l), hce 0 (by decide), ⟨v1, hce 1 (by decide), q1, q2⟩, hce 2 (by decide), hce 3 (by decide)⟩
    have ha0 : a.add 0 = a := by simp [Addr.add]
    obtain ⟨b, o, cp, hvr, hcp, hbo⟩ := slice_parts4 (W := W) (a := a) hl fun hp => by
      obtain ⟨q, k0, _⟩ := each 0 hp
      rw [Nat.zero_mul, ha0, ha0] at k0
      exact ⟨_, k0⟩
    have : Nonempty (Int × Int × Bool × AV × List Nat) := ⟨(0, 0, false, .snil, [])⟩
    let g : Nat → Int × Int × Bool × AV × List Nat := fun i => @dite _ (i < m) (Nat.decLt _ _) (fun hi => Classical.choose (each i hi)) (fun _ => (0, 0, false, .snil, []))
    have hg : ∀ i (hi : i < m), (W.cell? ((a.add (i * 4)).add 0) = some (.int .i64 (g i).1)) ∧ (∃ u, W.cell? ((a.add (i * 4)).add 1) = some u ∧ absV W.heap.size u = some (g i).2.2.2.1 ∧ Img (hW W) (g i).2.2.2.1 (g i).2.2.2.2) ∧
        W.cell? ((a.add (i * 4)).add 2) = some (.bool (g i).2.2.1) ∧ W.cell? ((a.add (i * 4)).add 3) = some (.int .i64 (g i).2.1) := fun i hi => by
      have e : g i = Classical.choose (each i hi) := dif_pos hi
      rw [e]
      exact Classical.choose_spec (each i hi)
    have hof : ∀ i j, i < m → ((a.add (i * 4)).add j).block = b ∧ ((a.add (i * 4)).add j).off = o + i * 4 + j := fun i j hi => by
      obtain ⟨rfl, rfl⟩ := hbo (by omega)
      obtain ⟨p1, p2⟩ := add_parts (a.add (i * 4)) j
      obtain ⟨p3, p4⟩ := add_parts a (i * 4)
      exact ⟨p1.trans p3, by rw [p2, p4]⟩
    have ld : ∀ {t : TypeId} {i j : Nat} {u : Value} {vv : AV}, i < m → isAg Tryz.prog t = some false → W.cell? ((a.add (i * 4)).add j) = some u → absV W.heap.size u = some vv → loadA Tryz.prog (hW W) t b (o + i * 4 + j) = some vv := fun {t i j u vv} hi hag hc hv => by
      have := load_hW (w := W) hag hc hv
      rwa [(hof i j hi).1, (hof i j hi).2] at this
    refine ⟨_, len, fun i => (g i).1, fun i => (g i).2.1, fun i => (g i).2.2.1, fun i => (g i).2.2.2.1, fun i => (g i).2.2.2.2, hvr, .inr ⟨b, o, cp, true, rfl, hcp, fun i hi => ?_, fun i hi => ?_, fun i hi => ?_, fun i hi => ?_, fun i hi => ?_⟩, .inr ⟨_, _, congrArg Prod.fst hx, by simp⟩⟩
    · exact ld (by omega) (by kernel_rfl) (hg i (by omega)).1 rfl
    · obtain ⟨u, k1, k2, _⟩ := (hg i (by omega)).2.1
      exact ld (by omega) (by kernel_rfl) k1 k2
    · obtain ⟨u, _, _, k3⟩ := (hg i (by omega)).2.1
      exact k3
    · exact ld (by omega) (by kernel_rfl) (hg i (by omega)).2.2.1 rfl
    · exact ld (by omega) (by kernel_rfl) (hg i (by omega)).2.2.2 rfl
theorem reshut_bool {t : TypeId} (ht : Tryz.prog.underlying t = some .bool) {fuel : Nat} {v : Value} {x : DataW H × List MemPlace} (h : DataW.trod enc Tryz.prog W 0 (fun _ => true) true fuel t [v] = some x) (sp : Nat → Bool) :
    ∃ n, DataW.trod enc Tryz.prog W' 0 sp true n t [v] = some x := by
  obtain ⟨m, hcs, rfl⟩ := DataW.trod_bool ht h
  rw [hcs]
  exact field_of_Trod (Go.RowKit.shut_bool ht _) rfl
theorem reshut_moves (hh : ∀ i, i < W.heap.size → W'.heap[i]? = W.heap[i]?)
    {fuel : Nat} {v : Value} {x : DataW H × List MemPlace} (h : DataW.trod enc Tryz.prog W 0 (fun _ => true) true fuel 44 [v] = some x) (sp : Nat → Bool) (hsp : ∀ p ∈ x.2, sp p.block = true) :
    ∃ n, DataW.trod enc Tryz.prog W' 0 sp true n 44 [v] = some x := by
  rcases open_slice Tryz.underlying44 h with ⟨hcs, hx⟩ | ⟨a, len, cap, m, n, D, Pl, hcs, hb, hl, hm, hmm, hx, hel⟩
  · rw [hcs, hx]
    exact field_of_Trod (Go.RowKit.shut_slice_nil Tryz.underlying44) rfl
  · simp only [if_true] at hmm
    subst hmm
    have each : ∀ i, i < m → ∃ cs n, W'.cells? 0 (a.add (i * Tryz.prog.cellsOf 53)) (Tryz.prog.cellsOf 53) = some cs ∧ DataW.trod enc Tryz.prog W' 0 sp true n 53 cs = some (D i, Pl i) := fun i hi => by
      obtain ⟨cs, c1, c2⟩ := hel i hi
      obtain ⟨hba, hln, hce⟩ := World.cells?_some c1
      have hpl : ∀ p ∈ Pl i, sp p.block = true := fun p hp => hsp p (by
        rw [hx]
        exact List.mem_append.2 (.inr (List.mem_flatMap.2 ⟨i, List.mem_range.2 hi, hp⟩)))
      obtain ⟨v0, v1, v2, v3, y0, y1, y2, y3, n', rfl, hxx, t0, t1, t2, t3⟩ := open_cells4 Tryz.underlying53 (by kernel_rfl) cells53 c2
      simp only [Prod.mk.injEq] at hxx
      obtain ⟨hx1, hx2⟩ := hxx
      obtain ⟨n2, hn2⟩ := shut_cells4 (enc := enc) (w := W') (base := 0) (spare := sp) (held := true) Tryz.underlying53 (by kernel_rfl) cells53 (reshut_int Tryz.underlying3 t0 sp)
        (reshut_ints Tryz.underlying26 Tryz.underlying5 cells5 hh t1 sp fun p hp => hpl p (by rw [hx2]; simp [hp])) (reshut_bool Tryz.underlying4 t2 sp) (reshut_int Tryz.underlying3 t3 sp)
      refine ⟨_, n2, ?_, by rw [hn2, hx1, hx2]⟩
      rw [cells53] at hce c1 ⊢
      have hc' : ∀ j, j < 4 → W'.cell? ((a.add (i * 4)).add j) = [v0, v1, v2, v3][j]? := fun j hj => by
        have := hce j hj
        have hv : ∃ u, [v0, v1, v2, v3][j]? = some u := ⟨_, List.getElem?_eq_getElem (by simpa using hj)⟩
        obtain ⟨u, hu⟩ := hv
        rw [hu] at this ⊢
        rw [cell_same (hh _ (cell_lt this).1)]; exact this
      have d0 : W'.cell? ((a.add (i * 4)).add 0) = some v0 := hc' 0 (by decide)
      have d1 : W'.cell? ((a.add (i * 4)).add 1) = some v1 := hc' 1 (by decide)
      have d2 : W'.cell? ((a.add (i * 4)).add 2) = some v2 := hc' 2 (by decide)
      have d3 : W'.cell? ((a.add (i * 4)).add 3) = some v3 := hc' 3 (by decide)
      unfold World.cells?
      rw [if_pos (Nat.zero_le _), show List.range 4 = [0, 1, 2, 3] from rfl]
      simp only [List.mapM_cons, List.mapM_nil, d0, d1, d2, d3]
      rfl
    rw [hcs]
    cases hs : sp a.block with
    | true =>
      obtain ⟨q, hq⟩ := shut_slice_whole_cells (enc := enc) (w := W') (base := 0) (held := true) Tryz.underlying44 hb hl hm hs D Pl each
      exact ⟨q, by rw [hq, hx]⟩
    | false =>
      have h0 : m = 0 := by
        rcases Nat.eq_zero_or_pos m with h0 | h0
        · exact h0
        · have := hsp (.cell a.block (a.off + 0)) (by rw [hx, cells53]; exact List.mem_append.2 (.inl (List.mem_map.2 ⟨0, List.mem_range.2 (by omega), rfl⟩)))
          rw [show (MemPlace.cell a.block (a.off + 0)).block = a.block from rfl, hs] at this
          cases this
      subst h0
      obtain rfl : len = 0 := by omega
      obtain ⟨q, hq⟩ := shut_slice_cells (enc := enc) (w := W') (base := 0) (held := true) Tryz.underlying44 hb hl hm hs D Pl fun i hi => each i hi
      exact ⟨q, by rw [hq, hx]; simp⟩
end Go.Abs
namespace Go.Abs
open Go.Proofs Go.Proofs.YtkihpcjfhilgcaaGreat Go.ChangeShapes Go.WideShapes Go.RowKit
noncomputable def S4 : Sums := fun f => bif Nat.beq f 80 then some masksS else bif Nat.beq f 7 then some awU else none
theorem S4_ok : SOk S4 := {
  masks := rfl
  none f h1 h2 := by
    unfold S4
    have e1 : Nat.beq f 80 = false := by cases h : Nat.beq f 80 with
      | false => rfl
      | true => exact absurd (Nat.eq_of_beq_eq_true h) h1
    have e2 : Nat.beq f 7 = false := by cases h : Nat.beq f 7 with
      | false => rfl
      | true => exact absurd (Nat.eq_of_beq_eq_true h) h2
    rw [e1, e2]; rfl }
variable {H : Type} {enc : TypeId × Value → H}
theorem one_leU (d : DataW H) : 1 ≤ Rows.uptoBulk d := by
  cases d with
  | lit l => cases l <;> simp [Rows.uptoBulk]
  | nil => simp [Rows.uptoBulk]
  | ptr d => simp [Rows.uptoBulk]
  | slice elems spare => simp [Rows.uptoBulk]
  | agg parts => simp [Rows.uptoBulk]
  | iface t d => simp [Rows.uptoBulk]
  | map entries => simp [Rows.uptoBulk]
  | held h => simp [Rows.uptoBulk]
theorem length_leU (l : List (DataW H)) : l.length ≤ Rows.uptoBulkAll l := by
  induction l with
  | nil => simp [Rows.uptoBulkAll]
  | cons x r ih => have := one_leU x; simp only [Rows.uptoBulkAll, List.length_cons]; omega
set_option maxRecDepth 100000 in
theorem unit_contract (hS4 : SumSound Tryz.prog S4) (F : Stop.Interp) (W : World) (base : Nat) (args : Array Value) (ds gs : List (DataW H)) (before : List MemPlace)
    (hval : ∀ (j : Nat) t v, Tryz.f4.params[j]? = some t → args[j]? = some v → Value.okWide Tryz.prog W .any base t v)
    (hW : DataW.Whole enc Tryz.prog Tryz.f4.params.toList Rows.topEveryUnitSpec.vars false W args.toList ds gs before) (hk : Rows.uptoSmall H (ds ++ gs) = true) :
    Calls Tryz.prog 4 args W fun e W' => ∃ v, e = .returned v ∧ ((Rows.OpenSpec.upto Rows.topEveryUnitSpec).at F).post enc Tryz.prog Tryz.f4 false true false false W args v W' := by
  have hW' := hW
  obtain ⟨p, q, hA0, hV, rfl, hfz, hnd⟩ := hW
  have hA : DataW.TrodAll enc Tryz.prog W 0 (fun _ => true) true Tryz.f4.params.toList args.toList ds p := hA0
  rw [Tryz.params4] at hA hval
  obtain ⟨v0, vs0, d0, ds0, p0, q0, hargs, rfl, rfl, h0, r0⟩ := trodAll_cons hA
  obtain ⟨v1, vs1, d1, ds1, p1, q1, rfl, rfl, rfl, h1, r1⟩ := trodAll_cons r0
  obtain ⟨rfl, rfl, rfl⟩ := trodAll_nil r1
  obtain rfl : args = #[v0, v1] := by cases args; simp_all
  obtain ⟨rfl, rfl⟩ := trodVars_none hV
  obtain ⟨cs0, rfl, hsz0⟩ := okWide_struct Tryz.underlying43 (hval 0 43 v0 rfl rfl)
  obtain ⟨m0, hm0⟩ := h0
  have hm0 : DataW.trod enc Tryz.prog W 0 (fun _ => true) true m0 43 cs0.toList = some (d0, p0) := hm0
  obtain ⟨x0, x1, x2, x3, x4, x5, y0, y1, y2, y3, y4, y5, m, hcs, hdp, t0, t1, t2, t3, t4, t5⟩ := open_cells6 Tryz.underlying43 (by kernel_rfl) cells43 hm0
  obtain rfl : cs0 = #[x0, x1, x2, x3, x4, x5] := by cases cs0; simp_all
  simp only [Prod.mk.injEq] at hdp
  obtain ⟨rfl, rfl⟩ := hdp
  obtain ⟨z0, e0, rfl, w0⟩ := DataW.trod_int Tryz.underlying3 t0
  obtain ⟨z1, e1, rfl, w1⟩ := DataW.trod_int Tryz.underlying3 t1
  obtain ⟨z2, e2, rfl, w2⟩ := DataW.trod_int Tryz.underlying3 t2
  obtain ⟨z3, e3, rfl, w3⟩ := DataW.trod_int Tryz.underlying3 t3
  obtain ⟨z4, e4, rfl, w4⟩ := DataW.trod_int Tryz.underlying3 t4
  obtain ⟨z5, e5, rfl, w5⟩ := DataW.trod_int Tryz.underlying3 t5
  obtain rfl : x0 = .int .i64 z0 := by simpa using e0
  obtain rfl : x1 = .int .i64 z1 := by simpa using e1
  obtain rfl : x2 = .int .i64 z2 := by simpa using e2
  obtain rfl : x3 = .int .i64 z3 := by simpa using e3
  obtain rfl : x4 = .int .i64 z4 := by simpa using e4
  obtain rfl : x5 = .int .i64 z5 := by simpa using e5
  obtain ⟨ai, li, ci, rfl⟩ := okWide_slice Tryz.underlying44 (hval 1 44 v1 rfl rfl)
  obtain ⟨m1, hm1⟩ := h1
  have hm1 : DataW.trod enc Tryz.prog W 0 (fun _ => true) true m1 44 [.slice ai li ci] = some (d1, p1) := hm1
  clear hA0
  obtain ⟨lv, N, kd, wt, fu, dv, dl, hlv, hM, hN⟩ := moves_hW hm1
  have hN' : N ≤ 1048576 := by
    have hk := of_decide_eq_true hk
    rcases hN with rfl | ⟨es, sp, he, rfl⟩
    · exact Nat.zero_le _
    · have he : d1 = .slice es sp := he
      subst he
      have h2 := length_leU es
      simp only [List.append_nil, Rows.uptoBulkAll, Rows.uptoBulk] at hk
      omega
  obtain ⟨v, h', he, rfl⟩ := unit_spec (X := X00) (S := S4) (L := 2000000) (d := 0) S4_ok rfl (Nat.le_refl _) (WF.ofWorld W) z0 z1 z2 z3 z4 z5 hM hN'
  have hv : VRs (ioN W.heap.size) [.agg [zI z0, zI z1, zI z2, zI z3, zI z4, zI z5], lv] [.agg #[.int .i64 z0, .int .i64 z1, .int .i64 z2, .int .i64 z3, .int .i64 z4, .int .i64 z5], .slice ai li ci] :=
    .cons (VR.agg_iff.2 ⟨[.int .i64 z0, .int .i64 z1, .int .i64 z2, .int .i64 z3, .int .i64 z4, .int .i64 z5], rfl, .cons (.int _ _) (.cons (.int _ _) (.cons (.int _ _) (.cons (.int _ _) (.cons (.int _ _) (.cons (.int _ _) (.nil _))))))⟩) (.cons hlv (.nil _))
  have hcall := (callA_sound ext_none hS4 follows_mixed 7).fn 4 _ _ _ _ he _ W _ (R.ofWorld W) hv
  refine Calls.mono hcall fun e W' ret => ?_
  cases e with
  | returned u =>
    obtain ⟨ι', hvu, hR', k⟩ := ret
    cases hvu
    have hh := k.ofWorld
    refine ⟨_, rfl, post_of_kept (s := (Rows.OpenSpec.upto Rows.topEveryUnitSpec).at F) (pa := ([] ++ ([] ++ ([] ++ ([] ++ ([] ++ []))))) ++ (p1 ++ [])) (pv := []) hW' (fun _ _ _ => trodAll_cons_mk (shut_bool Tryz.underlying4 _) trodAll_mk0) (fun sp hsp => ?_) (fun _ _ => rfl) rfl k.os k.output hh (ok_one (by kernel_rfl) rfl (okWide_bool_mk Tryz.underlying4 _))⟩
    have a0 : DataW.Trod enc Tryz.prog W' 0 sp true 43 (.agg #[.int .i64 z0, .int .i64 z1, .int .i64 z2, .int .i64 z3, .int .i64 z4, .int .i64 z5]) _ _ :=
      shut_cells6 (enc := enc) (w := W') (base := 0) (spare := sp) (held := true) Tryz.underlying43 (by kernel_rfl) cells43 (reshut_int (W' := W') Tryz.underlying3 t0 sp) (reshut_int (W' := W') Tryz.underlying3 t1 sp) (reshut_int (W' := W') Tryz.underlying3 t2 sp)
        (reshut_int (W' := W') Tryz.underlying3 t3 sp) (reshut_int (W' := W') Tryz.underlying3 t4 sp) (reshut_int (W' := W') Tryz.underlying3 t5 sp)
    have a1 : DataW.Trod enc Tryz.prog W' 0 sp true 44 (.slice ai li ci) d1 p1 := reshut_moves hh hm1 sp fun p hp => hsp p (by simp [hp])
    exact trodAll_cons_mk a0 (trodAll_cons_mk a1 trodAll_mk0)
  | _ => exact ret.elim
end Go.Abs
