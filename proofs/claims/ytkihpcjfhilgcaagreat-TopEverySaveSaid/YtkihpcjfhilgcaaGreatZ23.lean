/- TopEverySave answers true, with open values: the walk. No condition. -/
import Derived.Test.YtkihpcjfhilgcaaGreatZ22
namespace Go.Abs
open Go.Proofs
variable {X : Ext0} {S : Sums} {L : Nat} {h : H}
def strOf (l : List Nat) : ByteArray := ⟨(l.map fun n => UInt8.ofNat n).toArray⟩
theorem bytesA_u8 : ∀ l : List Nat, bytesA (u8L l) = some (l.map Int.ofNat)
  | [] => rfl
  | x :: l => by
    have ih := bytesA_u8 l
    show (match bytesA (u8L l) with | some ns => some (Int.ofNat x :: ns) | none => none) = _
    rw [ih]; rfl
theorem strOf_eq (l : List Nat) : (⟨((l.map Int.ofNat).map fun n => UInt8.ofNat n.toNat).toArray⟩ : ByteArray) = strOf l := by
  unfold strOf
  rw [List.map_map]
  rfl
section
variable {P : Program} {call : CallA} {n : Nat} {F : Fm} {K : Fm → H → Prop} {ops : Array Oper}
variable {ty : TypeId} {pos : String} {af : Array Edge} {chk : List Nat} {d : Nat} {v : AV} {t : TypeId} {x y : Operand} {k : IntKind}
theorem op_str {src dst e : TypeId} {l : List Nat} (hx : ev F x = some v) (hi : Img h v l) (hs : Tryz.prog.underlying src = some (.slice e)) (hd : Tryz.prog.underlying dst = some .string) (he : Tryz.prog.underlying e = some (.int .u8)) (hz : szo Tryz.prog e = some 1)
    (hk : K (F.put d (.str (strOf l))) h) : OpR Tryz.prog ops ⟨some d, .convert src dst x, ty, pos, af, none⟩ F h K := by
  refine OpR.val (v := .str (strOf l)) ?_ hk
  show dop Tryz.prog F h (.convert src dst x) = _
  rcases hi with ⟨rfl, rfl⟩ | ⟨b, o, cp, ex, rfl, hcp, hlb⟩
  · simp only [dop, hs, hd, hx, he, hz]; rfl
  · rcases Nat.eq_zero_or_pos l.length with h0 | h0
    · obtain rfl := List.eq_nil_of_length_eq_zero h0
      simp only [dop, hs, hd, hx, he, hz]; rfl
    · have e1 : (Nat.blt 0 l.length && Nat.ble l.length cp) = true := by simp [h0, hcp]
      have hag : isAg Tryz.prog 5 = some false := by kernel_rfl
      have hlast := hlb (l.length - 1) _ (List.getElem?_eq_getElem (show l.length - 1 < l.length by omega))
      have key : ∀ c : Tr AV, (∀ i x, l[i]? = some x → c.at (o + i) = some (.int .u8 (.ofNat x))) → gets c o l.length = some (u8L l) := fun c hc => by
        have := gets_all (c := c) (l := u8L l) (o := o) fun i hi => by
          rw [u8L_length] at hi
          rw [hc i _ (List.getElem?_eq_getElem hi)]
          unfold u8L
          rw [List.getElem?_map, List.getElem?_eq_getElem hi]; rfl
        rwa [u8L_length] at this
      have hb : (∃ m c, h.obj b = some (.cells m c) ∧ o + l.length ≤ m ∧ gets c o l.length = some (u8L l)) ∨ ∃ c, h.obj b = some (.ro c) ∧ gets c o l.length = some (u8L l) := by
        cases hob : h.obj b with
        | none => unfold loadA at hlast; rw [hob] at hlast; cases hlast
        | some ob =>
          cases ob with
          | cells m c =>
            have hh : ∀ i x, l[i]? = some x → o + i < m ∧ c.at (o + i) = some (.int .u8 (.ofNat x)) := fun i x hx => by
              have h1 := hlb i x hx
              unfold loadA at h1
              simp only [hob, hag, Bool.cond_eq_ite] at h1
              split at h1
              · rename_i hlt; exact ⟨by simpa using hlt, h1⟩
              · cases h1
            exact .inl ⟨m, c, rfl, by have := (hh (l.length - 1) _ (List.getElem?_eq_getElem (show l.length - 1 < l.length by omega))).1; omega, key c fun i x hx => (hh i x hx).2⟩
          | ro c =>
            refine .inr ⟨c, rfl, key c fun i x hx => ?_⟩
            have h1 := hlb i x hx
            unfold loadA at h1
            simp only [hob, hag] at h1
            exact h1
          | _ => unfold loadA at hlast; simp only [hob] at hlast; cases hlast
      rcases hb with ⟨m, c, hob, hm, hg⟩ | ⟨c, hob, hg⟩
      · have e2 : Nat.ble (o + l.length) m = true := Nat.ble_eq_true_of_le hm
        simp only [dop, hs, hd, hx, he, hz, e1, cond_true, hob, e2, hg, bytesA_u8, strOf_eq]
      · simp only [dop, hs, hd, hx, he, hz, e1, cond_true, hob, hg, bytesA_u8, strOf_eq]
theorem bin_eql_str {s : ByteArray} : binA P .eql t x y (.str s) (.str s) = some (.bool true) := by
  have : binOp .eql t (.string s) (.string s) = .pure (.bool (s.toList == s.toList)) := rfl
  simp only [binA, scal, this, beq_self_eq_true]; rfl
theorem bin_and32 {p : Int} : ∃ m, m < 4294967296 ∧ binA P .and t x y (.int .i64 p) (.int .i64 (.ofNat 4294967295)) = some (.int .i64 (.ofNat m)) := by
  have hlt : (BitVec.ofInt 64 p &&& BitVec.ofInt 64 (Int.ofNat 4294967295)).toNat < 4294967296 := by
    rw [BitVec.toNat_and]
    exact Nat.lt_of_le_of_lt Nat.and_le_right (by decide)
  refine ⟨_, hlt, ?_⟩
  have key : ∀ (k : IntKind) (q : Int), binOp .and t (.int k p) (.int k q) = Op.intBits .and k p q := fun k q => by
    show (if k ≠ k then _ else _) = _; rw [if_neg (by simp)]
  have : binOp .and t (.int .i64 p) (.int .i64 (.ofNat 4294967295)) = .pure (.int .i64 (IntKind.i64.wrap ((BitVec.ofInt 64 p &&& BitVec.ofInt 64 (Int.ofNat 4294967295)).toNat : Nat))) := (key .i64 _).trans rfl
  simp only [binA, scal, this]
  rw [wrap64 (by omega) (by omega)]; rfl
end
theorem Img.frB {h h' : H} {v : AV} {l : List Nat} (r : Img h v l) (w : WF h) {B : Nat → Prop} (f : Fr B h h') (hn : ∀ b, blkOf v b → ¬ B b) : Img h' v l := by
  rcases r with r | ⟨b, o, cp, ex, rfl, h1, h2⟩
  · exact .inl r
  · exact .inr ⟨b, o, cp, ex, rfl, h1, h2.fr w f (hn b rfl)⟩
structure Inp (h : H) (N bx : Nat) (sz st wd : Int) (sB sU sI : AV) (bf : List Int) (up : List (List Int)) (img : List Nat) : Prop where
  nx : N ≤ bx
  x : ∃ c, h.obj bx = some (.cells 5 c) ∧ c.at 0 = some (.int .i64 sz) ∧ c.at 1 = some (.int .i64 st) ∧ c.at 2 = some (.int .i64 wd) ∧ c.at 3 = some sB ∧ c.at 4 = some sU
  b : Ints h N sB bf
  u : Rows2 h N sU up
  i : Img h sI img
  n : ∀ c, blkOf sI c → c < N
variable {N bx : Nat} {sz st wd : Int} {sB sU sI : AV} {bf : List Int} {up : List (List Int)} {img : List Nat}
theorem Inp.fr {h h' : H} (r : Inp h N bx sz st wd sB sU sI bf up img) (w : WF h) {B : Nat → Prop} (f : Fr B h h') (hB : ∀ b, B b → N ≤ b ∧ b ≠ bx) : Inp h' N bx sz st wd sB sU sI bf up img := by
  obtain ⟨c, g1, g2⟩ := r.x
  exact ⟨r.nx, ⟨c, f.get w g1 fun hb => (hB bx hb).2 rfl, g2⟩, r.b.fr w f fun b hb => (hB b hb).1, r.u.fr w f fun b hb => (hB b hb).1,
    r.i.frB w f fun b hb hq => by have := r.n b hb; have := (hB b hq).1; omega, r.n⟩
theorem Mem.wide {bm bw n : Nat} {D : Nat → Nat} {Z Z' : Nat → Prop} (m : Mem h bm bw n D Z) (hz : ∀ i, Z i → Z' i) : Mem h bm bw n D Z' := by
  obtain ⟨cw, k1, k2⟩ := m.w
  refine ⟨m.wf, m.ne, m.le, m.m, ⟨cw, k1, fun i hi => ?_⟩⟩
  obtain ⟨w, k3, k4, k5⟩ := k2 i hi
  exact ⟨w, k3, k4, k5.imp id fun ⟨k6, k7⟩ => ⟨hz i k6, k7⟩⟩
noncomputable def awS : List AV → H → Option (AV × H) := fun args h => match args with
  | [] => some (.bool true, h)
  | _ => none
theorem aw_spec {d : Nat} (hA : S 7 = some awS) : CS Tryz.prog X S L (d + 1) 7 [] h (fun v h' => v = .bool true ∧ h = h') := CS.sum hA rfl ⟨rfl, rfl⟩
theorem top_spec {d : Nat} (hS : SOk S) (hA : S 7 = some awS) (hL : 1000000 ≤ L) (hw : WF h) (cut : Int)
    (hst : st < 9223372036854775808) (hwd : wd < 9223372036854775808) (hbL : bf.length < L) (hbn : bf.length < 9223372036854775808) (huL : up.length < L) (hun : up.length < 9223372036854775808)
    (hB : Ints h h.next sB bf) (hU : Rows2 h h.next sU up) (hI : Img h sI img) (hIn : ∀ c, blkOf sI c → c < h.next) (hIb : ∀ x ∈ img, x < 256) :
    CS Tryz.prog X S L (d + 11) 3 [.agg [.int .i64 sz, .int .i64 st, .int .i64 wd, sB, sU], sI, .int .i64 cut] h (fun v _ => v = .bool true) := by
  refine CS.of (rs := [.tmp 6]) (hS.none _ (by decide) (by decide)) Tryz.func3 rfl rfl ?_
  refine Gives.seq ?_
  refine Gives.region [.p 0, .p 1] (by kernel_rfl) ?_
  refine RP.p rfl (op_box (qT (by repeat (first | with_reducible (first | exact qS | assumption) | refine qN rfl ?_ | exact qO rfl))) ?_)
  refine RP.p rfl (op_assign rfl ?_)
  refine RP.nil ?_
  have f0 : Fr (fun _ => False) h (h.new (.cells (AV.agg [.int .i64 sz, .int .i64 st, .int .i64 wd, sB, sU]).cells.length (ofL (AV.agg [.int .i64 sz, .int .i64 st, .int .i64 wd, sB, sU]).cells))) := (Fr.refl hw).new _
  have in0 : Inp (h.new (.cells (AV.agg [.int .i64 sz, .int .i64 st, .int .i64 wd, sB, sU]).cells.length (ofL (AV.agg [.int .i64 sz, .int .i64 st, .int .i64 wd, sB, sU]).cells))) h.next h.next sz st wd sB sU sI bf up img :=
    ⟨Nat.le_refl _, ⟨_, obj_new_same (by simp), qO rfl, qO rfl, qO rfl, qO rfl, qO rfl⟩, hB.fr hw f0 (fun b hb => hb.elim), hU.fr hw f0 (fun b hb => hb.elim), hI.frB hw f0 (fun _ _ => id), hIn⟩
  have hn0 : (h.new (.cells (AV.agg [.int .i64 sz, .int .i64 st, .int .i64 wd, sB, sU]).cells.length (ofL (AV.agg [.int .i64 sz, .int .i64 st, .int .i64 wd, sB, sU]).cells))).next = h.next + 1 := rfl
  have w0 := f0.wf
  generalize h.new (.cells (AV.agg [.int .i64 sz, .int .i64 st, .int .i64 wd, sB, sU]).cells.length (ofL (AV.agg [.int .i64 sz, .int .i64 st, .int .i64 wd, sB, sU]).cells)) = h0 at *
  clear f0 hB hU hI hIn
  generalize hNN : h.next = N at *
  refine Gives.seq ?_
  refine Gives.region [.p 0, .r 1, .e 2 [], .p 3] (by kernel_rfl) ?_
  obtain ⟨cx, x0, x1, x2, x3, x4, x5⟩ := in0.x
  refine RP.p rfl (op_fieldAddr (off := 0) (qT (by repeat (first | with_reducible (first | exact qS | assumption) | refine qN rfl ?_ | exact qO rfl))) (by kernel_rfl) ?_)
  refine RP.r rfl (op_load (qT (by repeat (first | with_reducible (first | exact qS | assumption) | refine qN rfl ?_ | exact qO rfl))) (loadA_cell (by kernel_rfl) x0 (by omega) x1) ?_)
  refine RP.e rfl (op_calls (evs_cons (qT (by repeat (first | with_reducible (first | exact qS | assumption) | refine qN rfl ?_ | exact qO rfl))) evs_nil) (by kernel_rfl) (new_spec hS (by omega) w0 sz) ?_)
  rintro v h1 ⟨bm, bw, rfl, hbm, hbw, hm1, hF1⟩
  generalize sizeN sz = n at hm1
  have in1 := in0.fr w0 hF1 fun b hb => hb.elim
  clear x0 x1 x2 x3 x4 x5
  refine RP.p rfl (op_assign (qT (by repeat (first | with_reducible (first | exact qS | assumption) | refine qN rfl ?_ | exact qO rfl))) ?_)
  refine RP.nil ?_
  refine Gives.seq ?_
  refine Gives.region [.p 0, .p 1, .r 2, .p 3, .r 4, .e 5 [], .p 6, .p 7, .p 8, .p 9, .p 10] (by kernel_rfl) ?_
  obtain ⟨cx, x0, x1, x2, x3, x4, x5⟩ := in1.x
  refine RP.p rfl (op_move (qT (by repeat (first | with_reducible (first | exact qS | assumption) | refine qN rfl ?_ | exact qO rfl))) ?_)
  refine RP.p rfl (op_fieldAddr (off := 1) (qT (by repeat (first | with_reducible (first | exact qS | assumption) | refine qN rfl ?_ | exact qO rfl))) (by kernel_rfl) ?_)
  refine RP.r rfl (op_load (qT (by repeat (first | with_reducible (first | exact qS | assumption) | refine qN rfl ?_ | exact qO rfl))) (loadA_cell (by kernel_rfl) x0 (by omega) x2) ?_)
  refine RP.p rfl (op_fieldAddr (off := 2) (qT (by repeat (first | with_reducible (first | exact qS | assumption) | refine qN rfl ?_ | exact qO rfl))) (by kernel_rfl) ?_)
  refine RP.r rfl (op_load (qT (by repeat (first | with_reducible (first | exact qS | assumption) | refine qN rfl ?_ | exact qO rfl))) (loadA_cell (by kernel_rfl) x0 (by omega) x3) ?_)
  refine RP.e rfl (op_calls (evs_cons (qT (by repeat (first | with_reducible (first | exact qS | assumption) | refine qN rfl ?_ | exact qO rfl))) (evs_cons (qT (by repeat (first | with_reducible (first | exact qS | assumption) | refine qN rfl ?_ | exact qO rfl))) (evs_cons (qT (by repeat (first | with_reducible (first | exact qS | assumption) | refine qN rfl ?_ | exact qO rfl))) evs_nil))) (by kernel_rfl) (open_spec hS (by omega) hm1 st wd hst hwd) ?_)
  rintro v h2 ⟨hm2, hF2, hcase⟩
  have htwo : ∀ b, two bm bw b → N ≤ b ∧ b ≠ N := fun b hb => by rcases hb with rfl | rfl <;> omega
  have in2 := in1.fr hm1.wf hF2 htwo
  clear x0 x1 x2 x3 x4 x5
  rcases hcase with ⟨_, rfl⟩ | ⟨hfit, bv, hbv, rfl, hvl⟩
  · refine RP.p rfl (op_move (qT (by repeat (first | with_reducible (first | exact qS | assumption) | refine qN rfl ?_ | exact qO rfl))) ?_)
    refine RP.p rfl (op_extract (qT (by repeat (first | with_reducible (first | exact qS | assumption) | refine qN rfl ?_ | exact qO rfl))) rfl ?_)
    refine RP.p rfl (op_extract (qT (by repeat (first | with_reducible (first | exact qS | assumption) | refine qN rfl ?_ | exact qO rfl))) rfl ?_)
    refine RP.p rfl (op_assign (qT (by repeat (first | with_reducible (first | exact qS | assumption) | refine qN rfl ?_ | exact qO rfl))) ?_)
    refine RP.p rfl (op_assign (qT (by repeat (first | with_reducible (first | exact qS | assumption) | refine qN rfl ?_ | exact qO rfl))) ?_)
    refine RP.nil ?_
    refine Gives.seq ?_
    refine Gives.seq ?_
    refine Gives.region [.p 0, .p 1, .p 2, .p 3, .p 4, .p 5] (by kernel_rfl) ?_
    refine RP.p rfl (op_move (qT (by repeat (first | with_reducible (first | exact qS | assumption) | refine qN rfl ?_ | exact qO rfl))) ?_)
    refine RP.p rfl (op_bin (qT (by repeat (first | with_reducible (first | exact qS | assumption) | refine qN rfl ?_ | exact qO rfl))) rfl (bin_eql_nn Tryz.underlying29) ?_)
    refine RP.p rfl (op_move (qT (by repeat (first | with_reducible (first | exact qS | assumption) | refine qN rfl ?_ | exact qO rfl))) ?_)
    refine RP.p rfl (OpP.offT rfl rfl (by repeat (first | with_reducible (first | exact qS | assumption) | refine qN rfl ?_ | exact qO rfl)) ?_)
    refine RP.p rfl (OpP.offT rfl rfl (by repeat (first | with_reducible (first | exact qS | assumption) | refine qN rfl ?_ | exact qO rfl)) ?_)
    refine RP.p rfl (op_pick_t (qT (by repeat (first | with_reducible (first | exact qS | assumption) | refine qN rfl ?_ | exact qO rfl))) rfl ?_)
    refine RP.nil ?_
    refine Gives.then_ (qT (by repeat (first | with_reducible (first | exact qS | assumption) | refine qN rfl ?_ | exact qO rfl))) ?_
    refine Gives.seq ?_
    refine Gives.region [.p 0, .p 1, .p 2, .p 3, .p 4, .p 5, .p 6, .e 7 [], .p 8, .p 9] (by kernel_rfl) ?_
    refine RP.p rfl (op_move (qT (by repeat (first | with_reducible (first | exact qS | assumption) | refine qN rfl ?_ | exact qO rfl))) ?_)
    refine RP.p rfl (op_bin (qT (by repeat (first | with_reducible (first | exact qS | assumption) | refine qN rfl ?_ | exact qO rfl))) rfl (bin_eql_nn Tryz.underlying29) ?_)
    refine RP.p rfl (op_move (qT (by repeat (first | with_reducible (first | exact qS | assumption) | refine qN rfl ?_ | exact qO rfl))) ?_)
    refine RP.p rfl (OpP.on' rfl rfl (by repeat (first | with_reducible (first | exact qS | assumption) | refine qN rfl ?_ | exact qO rfl)) (op_move (qT (by repeat (first | with_reducible (first | exact qS | assumption) | refine qN rfl ?_ | exact qO rfl))) ?_))
    refine RP.p rfl (OpP.on' rfl rfl (by repeat (first | with_reducible (first | exact qS | assumption) | refine qN rfl ?_ | exact qO rfl)) (op_bin (qT (by repeat (first | with_reducible (first | exact qS | assumption) | refine qN rfl ?_ | exact qO rfl))) (show ev _ _ = some (.int .i64 (.ofNat 0)) from rfl) (bin_neq_t (by decide)) ?_))
    refine RP.p rfl (op_pick_t (qT (by repeat (first | with_reducible (first | exact qS | assumption) | refine qN rfl ?_ | exact qO rfl))) (qT (by repeat (first | with_reducible (first | exact qS | assumption) | refine qN rfl ?_ | exact qO rfl))) ?_)
    refine RP.p rfl (op_move (qT (by repeat (first | with_reducible (first | exact qS | assumption) | refine qN rfl ?_ | exact qO rfl))) ?_)
    refine RP.e rfl (OpE.on' rfl rfl (by repeat (first | with_reducible (first | exact qS | assumption) | refine qN rfl ?_ | exact qO rfl)) (op_calls evs_nil (by kernel_rfl) (aw_spec hA) ?_))
    rintro v h9 ⟨rfl, rfl⟩
    refine RP.p rfl (op_pick_t (qT (by repeat (first | with_reducible (first | exact qS | assumption) | refine qN rfl ?_ | exact qO rfl))) (qT (by repeat (first | with_reducible (first | exact qS | assumption) | refine qN rfl ?_ | exact qO rfl))) ?_)
    refine RP.p rfl (op_assign (qT (by repeat (first | with_reducible (first | exact qS | assumption) | refine qN rfl ?_ | exact qO rfl))) ?_)
    refine RP.nil ?_
    exact Gives.ret0 (RS.one (by repeat (first | with_reducible (first | exact qS | assumption) | refine qN rfl ?_ | exact qO rfl)) rfl)
  obtain ⟨ft1, ft2, ft3⟩ := hfit
  obtain ⟨start, rfl⟩ : ∃ s : Nat, st = .ofNat s := ⟨st.toNat, by simp; omega⟩
  obtain ⟨len, rfl⟩ : ∃ s : Nat, wd = .ofNat s := ⟨wd.toNat, by simp; omega⟩
  have hlen : start + len ≤ n := by simp at ft3; omega
  have hnle := hm2.le
  rw [show (Int.ofNat start).toNat = start from rfl, show (Int.ofNat len).toNat = len from rfl] at hvl
  have hn12 := hF2.next
  have hn01 := hF1.next
  have hbmw : bm < h1.next ∧ bw < h1.next := by
    obtain ⟨_, _, q1, _⟩ := hm1.m
    obtain ⟨_, q2, _⟩ := hm1.w
    exact ⟨hm1.wf.lt q1, hm1.wf.lt q2⟩
  have hVM2 : VM h2 bv bm bw n (fun _ => 0) (fun _ => False) start (len / 2) := ⟨hm2, hvl, by omega, by omega, by omega⟩
  refine RP.p rfl (op_move (qT (by repeat (first | with_reducible (first | exact qS | assumption) | refine qN rfl ?_ | exact qO rfl))) ?_)
  refine RP.p rfl (op_extract (qT (by repeat (first | with_reducible (first | exact qS | assumption) | refine qN rfl ?_ | exact qO rfl))) rfl ?_)
  refine RP.p rfl (op_extract (qT (by repeat (first | with_reducible (first | exact qS | assumption) | refine qN rfl ?_ | exact qO rfl))) rfl ?_)
  refine RP.p rfl (op_assign (qT (by repeat (first | with_reducible (first | exact qS | assumption) | refine qN rfl ?_ | exact qO rfl))) ?_)
  refine RP.p rfl (op_assign (qT (by repeat (first | with_reducible (first | exact qS | assumption) | refine qN rfl ?_ | exact qO rfl))) ?_)
  refine RP.nil ?_
  refine Gives.seq ?_
  refine Gives.seq ?_
  refine Gives.region [.p 0, .p 1, .p 2, .p 3, .p 4, .p 5] (by kernel_rfl) ?_
  refine RP.p rfl (op_move (qT (by repeat (first | with_reducible (first | exact qS | assumption) | refine qN rfl ?_ | exact qO rfl))) ?_)
  refine RP.p rfl (op_bin (qT (by repeat (first | with_reducible (first | exact qS | assumption) | refine qN rfl ?_ | exact qO rfl))) rfl (bin_eql_nil Tryz.underlying29) ?_)
  refine RP.p rfl (op_move (qT (by repeat (first | with_reducible (first | exact qS | assumption) | refine qN rfl ?_ | exact qO rfl))) ?_)
  refine RP.p rfl (OpP.on' rfl rfl (by repeat (first | with_reducible (first | exact qS | assumption) | refine qN rfl ?_ | exact qO rfl)) (op_move (qT (by repeat (first | with_reducible (first | exact qS | assumption) | refine qN rfl ?_ | exact qO rfl))) ?_))
  refine RP.p rfl (OpP.on' rfl rfl (by repeat (first | with_reducible (first | exact qS | assumption) | refine qN rfl ?_ | exact qO rfl)) (op_bin (qT (by repeat (first | with_reducible (first | exact qS | assumption) | refine qN rfl ?_ | exact qO rfl))) (show ev _ _ = some (.int .i64 (.ofNat 0)) from rfl) (bin_neq_f rfl) ?_))
  refine RP.p rfl (op_pick_f (qT (by repeat (first | with_reducible (first | exact qS | assumption) | refine qN rfl ?_ | exact qO rfl))) (qT (by repeat (first | with_reducible (first | exact qS | assumption) | refine qN rfl ?_ | exact qO rfl))) ?_)
  refine RP.nil ?_
  refine Gives.else_ (qT (by repeat (first | with_reducible (first | exact qS | assumption) | refine qN rfl ?_ | exact qO rfl))) ?_
  refine Gives.skip ?_
  refine Gives.seq ?_
  refine Gives.mono (N := fun F' h' => F'.at 1 = some sI ∧ F'.at 2 = some (.int .i64 cut) ∧ F'.at 3 = some (.ptr N 0) ∧ F'.at 7 = some (.ptr bm 0) ∧ F'.at 8 = some (.ptr bv 0) ∧ Inp h' N N sz (.ofNat start) (.ofNat len) sB sU sI bf up img ∧ ∃ D, VM h' bv bm bw n D (fun _ => False) start (len / 2))
    (B := fun _ _ _ => False) ?_ ?_ (fun _ _ _ hq => hq.elim)
  · refine Gives.seq ?_
    refine Gives.region [.p 0] (by kernel_rfl) ?_
    refine RP.p rfl (op_assign (show ev _ _ = some (.int .i64 (.ofNat 0)) from rfl) ?_)
    refine RP.nil ?_
    refine Gives.block ?_
    refine Gives.loop (I := fun k F' h' => ∃ i, k + i = bf.length ∧ F'.at 1 = some sI ∧ F'.at 2 = some (.int .i64 cut) ∧ F'.at 3 = some (.ptr N 0) ∧ F'.at 7 = some (.ptr bm 0) ∧ F'.at 8 = some (.ptr bv 0) ∧ F'.at 10 = some (.int .i64 (.ofNat i)) ∧ Inp h' N N sz (.ofNat start) (.ofNat len) sB sU sI bf up img ∧ ∃ D, VM h' bv bm bw n D (fun _ => False) start (len / 2))
      (fun k F h' hI => ?_) (k := bf.length) (by omega) ⟨0, by omega, (by repeat (first | with_reducible (first | exact qS | assumption) | refine qN rfl ?_ | exact qO rfl)), (by repeat (first | with_reducible (first | exact qS | assumption) | refine qN rfl ?_ | exact qO rfl)), (by repeat (first | with_reducible (first | exact qS | assumption) | refine qN rfl ?_ | exact qO rfl)), (by repeat (first | with_reducible (first | exact qS | assumption) | refine qN rfl ?_ | exact qO rfl)), (by repeat (first | with_reducible (first | exact qS | assumption) | refine qN rfl ?_ | exact qO rfl)), (by repeat (first | with_reducible (first | exact qS | assumption) | refine qN rfl ?_ | exact qO rfl)), in2, _, hVM2⟩
    clear in0 in1 in2 hVM2 hm1 hm2 hvl hF1 hF2
    obtain ⟨i, hk, e1, e2, e3, e7, e8, e10, inp, D, hM⟩ := hI
    obtain ⟨cx, x0, x1, x2, x3, x4, x5⟩ := inp.x
    refine Gives.seq ?_
    refine Gives.seq ?_
    refine Gives.region [.p 0, .p 1, .r 2, .p 3, .p 4, .p 5, .p 6, .p 7, .r 8, .p 9, .p 10] (by kernel_rfl) ?_
    by_cases hi : i < bf.length
    · refine RP.p rfl (op_move (qT (by repeat (first | with_reducible (first | exact qS | assumption) | refine qN rfl ?_ | exact qO rfl))) ?_)
      refine RP.p rfl (op_fieldAddr (off := 3) (qT (by repeat (first | with_reducible (first | exact qS | assumption) | refine qN rfl ?_ | exact qO rfl))) (by kernel_rfl) ?_)
      refine RP.r rfl (op_load (qT (by repeat (first | with_reducible (first | exact qS | assumption) | refine qN rfl ?_ | exact qO rfl))) (loadA_cell (by kernel_rfl) x0 (by omega) x4) ?_)
      refine RP.p rfl (op_len_ints (qT (by repeat (first | with_reducible (first | exact qS | assumption) | refine qN rfl ?_ | exact qO rfl))) inp.b Tryz.underlying22 ?_)
      refine RP.p rfl (op_bin (qT (by repeat (first | with_reducible (first | exact qS | assumption) | refine qN rfl ?_ | exact qO rfl))) (qT (by repeat (first | with_reducible (first | exact qS | assumption) | refine qN rfl ?_ | exact qO rfl))) (bin_lss_t hi) ?_)
      refine RP.p rfl (op_move (qT (by repeat (first | with_reducible (first | exact qS | assumption) | refine qN rfl ?_ | exact qO rfl))) ?_)
      refine RP.p rfl (OpP.on' rfl rfl (by repeat (first | with_reducible (first | exact qS | assumption) | refine qN rfl ?_ | exact qO rfl)) (op_move (qT (by repeat (first | with_reducible (first | exact qS | assumption) | refine qN rfl ?_ | exact qO rfl))) ?_))
      refine RP.p rfl (OpP.on' rfl rfl (by repeat (first | with_reducible (first | exact qS | assumption) | refine qN rfl ?_ | exact qO rfl)) (op_fieldAddr (off := 2) (qT (by repeat (first | with_reducible (first | exact qS | assumption) | refine qN rfl ?_ | exact qO rfl))) (by kernel_rfl) ?_))
      refine RP.r rfl (OpR.on' rfl rfl (by repeat (first | with_reducible (first | exact qS | assumption) | refine qN rfl ?_ | exact qO rfl)) (op_load (qT (by repeat (first | with_reducible (first | exact qS | assumption) | refine qN rfl ?_ | exact qO rfl))) (loadA_cell (by kernel_rfl) x0 (by omega) x3) ?_))
      refine RP.p rfl (OpP.on' rfl rfl (by repeat (first | with_reducible (first | exact qS | assumption) | refine qN rfl ?_ | exact qO rfl)) (op_bin (qT (by repeat (first | with_reducible (first | exact qS | assumption) | refine qN rfl ?_ | exact qO rfl))) (qT (by repeat (first | with_reducible (first | exact qS | assumption) | refine qN rfl ?_ | exact qO rfl))) bin_lssN ?_))
      refine RP.p rfl (op_pick_t (qT (by repeat (first | with_reducible (first | exact qS | assumption) | refine qN rfl ?_ | exact qO rfl))) (qT (by repeat (first | with_reducible (first | exact qS | assumption) | refine qN rfl ?_ | exact qO rfl))) ?_)
      refine RP.nil ?_
      refine Gives.cond (qT (by repeat (first | with_reducible (first | exact qS | assumption) | refine qN rfl ?_ | exact qO rfl))) (fun hc => ?_) (fun hc => ?_)
      · have hil : i < len := of_decide_eq_true hc
        clear hc
        obtain ⟨k, rfl⟩ : ∃ m, k = m + 1 := ⟨k - 1, by omega⟩
        obtain ⟨cb, ob, pb, rfl, qb, zb⟩ := inp.b.slice (by omega)
        refine Gives.skip ?_
        refine Gives.seq ?_
        refine Gives.block ?_
        refine Gives.region [.p 0, .p 1, .r 2, .p 3, .p 4, .p 5, .r 6, .p 7, .p 8, .r 9, .p 10, .p 11, .e 12 []] (by kernel_rfl) ?_
        refine RP.p rfl (op_move (qT (by repeat (first | with_reducible (first | exact qS | assumption) | refine qN rfl ?_ | exact qO rfl))) ?_)
        refine RP.p rfl (op_fieldAddr (off := 1) (qT (by repeat (first | with_reducible (first | exact qS | assumption) | refine qN rfl ?_ | exact qO rfl))) (by kernel_rfl) ?_)
        refine RP.r rfl (op_load (qT (by repeat (first | with_reducible (first | exact qS | assumption) | refine qN rfl ?_ | exact qO rfl))) (loadA_cell (by kernel_rfl) x0 (by omega) x2) ?_)
        refine RP.p rfl (op_move (qT (by repeat (first | with_reducible (first | exact qS | assumption) | refine qN rfl ?_ | exact qO rfl))) ?_)
        refine RP.p rfl (op_bin (qT (by repeat (first | with_reducible (first | exact qS | assumption) | refine qN rfl ?_ | exact qO rfl))) (qT (by repeat (first | with_reducible (first | exact qS | assumption) | refine qN rfl ?_ | exact qO rfl))) (bin_add (by have e1 : topK .i64 = 9223372036854775808 := rfl; have e2 : topK .u32 = 4294967296 := rfl; have e3 : topK .u64 = 18446744073709551616 := rfl; have e4 : topK .u8 = 256 := rfl; have e5 : topK .u16 = 65536 := rfl; omega)) ?_)
        refine RP.p rfl (op_fieldAddr (off := 3) (qT (by repeat (first | with_reducible (first | exact qS | assumption) | refine qN rfl ?_ | exact qO rfl))) (by kernel_rfl) ?_)
        refine RP.r rfl (op_load (qT (by repeat (first | with_reducible (first | exact qS | assumption) | refine qN rfl ?_ | exact qO rfl))) (loadA_cell (by kernel_rfl) x0 (by omega) x4) ?_)
        refine RP.p rfl (op_move (qT (by repeat (first | with_reducible (first | exact qS | assumption) | refine qN rfl ?_ | exact qO rfl))) ?_)
        refine RP.p rfl (op_indexAddr (qT (by repeat (first | with_reducible (first | exact qS | assumption) | refine qN rfl ?_ | exact qO rfl))) (qT (by repeat (first | with_reducible (first | exact qS | assumption) | refine qN rfl ?_ | exact qO rfl))) Tryz.underlying22 (by kernel_rfl) hi qb ?_)
        refine RP.r rfl (op_load (qT (by repeat (first | with_reducible (first | exact qS | assumption) | refine qN rfl ?_ | exact qO rfl))) (zb i _ (getD_some hi)) ?_)
        obtain ⟨m, hm32, hand⟩ := bin_and32 (P := Tryz.prog) (t := 3) (x := .tmp 66) (y := .const (.int .i64 4294967295)) (p := bf.getD i 0)
        refine RP.p rfl (op_bin (qT (by repeat (first | with_reducible (first | exact qS | assumption) | refine qN rfl ?_ | exact qO rfl))) (show ev _ _ = some (.int .i64 (.ofNat 4294967295)) from rfl) hand ?_)
        refine RP.p rfl (op_conv (qT (by repeat (first | with_reducible (first | exact qS | assumption) | refine qN rfl ?_ | exact qO rfl))) Tryz.underlying3 Tryz.underlying35 (by have e1 : topK .i64 = 9223372036854775808 := rfl; have e2 : topK .u32 = 4294967296 := rfl; have e3 : topK .u64 = 18446744073709551616 := rfl; have e4 : topK .u8 = 256 := rfl; have e5 : topK .u16 = 65536 := rfl; omega) ?_)
        refine RP.e rfl (op_calls (evs_cons (qT (by repeat (first | with_reducible (first | exact qS | assumption) | refine qN rfl ?_ | exact qO rfl))) (evs_cons (qT (by repeat (first | with_reducible (first | exact qS | assumption) | refine qN rfl ?_ | exact qO rfl))) (evs_cons (qT (by repeat (first | with_reducible (first | exact qS | assumption) | refine qN rfl ?_ | exact qO rfl))) evs_nil))) (by kernel_rfl) (mwrite_spec hS (by omega) hM.m (start + i) m (by omega) hm32) ?_)
        rintro v h4 ⟨rfl, hm4, hf4⟩
        have hM4 := hM.fr2 hf4 hm4
        have in4 := inp.fr hM.m.wf hf4 htwo
        refine RP.nil ?_
        refine Gives.region [.p 0, .p 1, .p 2] (by kernel_rfl) ?_
        refine RP.p rfl (op_move (qT (by repeat (first | with_reducible (first | exact qS | assumption) | refine qN rfl ?_ | exact qO rfl))) ?_)
        refine RP.p rfl (op_bin (qT (by repeat (first | with_reducible (first | exact qS | assumption) | refine qN rfl ?_ | exact qO rfl))) (show ev _ _ = some (.int .i64 (.ofNat 1)) from rfl) (bin_add (by have e1 : topK .i64 = 9223372036854775808 := rfl; have e2 : topK .u32 = 4294967296 := rfl; have e3 : topK .u64 = 18446744073709551616 := rfl; have e4 : topK .u8 = 256 := rfl; have e5 : topK .u16 = 65536 := rfl; omega)) ?_)
        refine RP.p rfl (op_assign (qT (by repeat (first | with_reducible (first | exact qS | assumption) | refine qN rfl ?_ | exact qO rfl))) ?_)
        refine RP.nil ?_
        exact ⟨k, by omega, i + 1, by omega, (by repeat (first | with_reducible (first | exact qS | assumption) | refine qN rfl ?_ | exact qO rfl)), (by repeat (first | with_reducible (first | exact qS | assumption) | refine qN rfl ?_ | exact qO rfl)), (by repeat (first | with_reducible (first | exact qS | assumption) | refine qN rfl ?_ | exact qO rfl)), (by repeat (first | with_reducible (first | exact qS | assumption) | refine qN rfl ?_ | exact qO rfl)), (by repeat (first | with_reducible (first | exact qS | assumption) | refine qN rfl ?_ | exact qO rfl)), (by repeat (first | with_reducible (first | exact qS | assumption) | refine qN rfl ?_ | exact qO rfl)), in4, _, hM4⟩
      · refine Gives.exit_same ?_
        exact ⟨(by repeat (first | with_reducible (first | exact qS | assumption) | refine qN rfl ?_ | exact qO rfl)), (by repeat (first | with_reducible (first | exact qS | assumption) | refine qN rfl ?_ | exact qO rfl)), (by repeat (first | with_reducible (first | exact qS | assumption) | refine qN rfl ?_ | exact qO rfl)), (by repeat (first | with_reducible (first | exact qS | assumption) | refine qN rfl ?_ | exact qO rfl)), (by repeat (first | with_reducible (first | exact qS | assumption) | refine qN rfl ?_ | exact qO rfl)), inp, D, hM⟩
    · refine RP.p rfl (op_move (qT (by repeat (first | with_reducible (first | exact qS | assumption) | refine qN rfl ?_ | exact qO rfl))) ?_)
      refine RP.p rfl (op_fieldAddr (off := 3) (qT (by repeat (first | with_reducible (first | exact qS | assumption) | refine qN rfl ?_ | exact qO rfl))) (by kernel_rfl) ?_)
      refine RP.r rfl (op_load (qT (by repeat (first | with_reducible (first | exact qS | assumption) | refine qN rfl ?_ | exact qO rfl))) (loadA_cell (by kernel_rfl) x0 (by omega) x4) ?_)
      refine RP.p rfl (op_len_ints (qT (by repeat (first | with_reducible (first | exact qS | assumption) | refine qN rfl ?_ | exact qO rfl))) inp.b Tryz.underlying22 ?_)
      refine RP.p rfl (op_bin (qT (by repeat (first | with_reducible (first | exact qS | assumption) | refine qN rfl ?_ | exact qO rfl))) (qT (by repeat (first | with_reducible (first | exact qS | assumption) | refine qN rfl ?_ | exact qO rfl))) (bin_lss_f (by omega)) ?_)
      refine RP.p rfl (op_move (qT (by repeat (first | with_reducible (first | exact qS | assumption) | refine qN rfl ?_ | exact qO rfl))) ?_)
      refine RP.p rfl (OpP.offF rfl rfl (by repeat (first | with_reducible (first | exact qS | assumption) | refine qN rfl ?_ | exact qO rfl)) ?_)
      refine RP.p rfl (OpP.offF rfl rfl (by repeat (first | with_reducible (first | exact qS | assumption) | refine qN rfl ?_ | exact qO rfl)) ?_)
      refine RP.r rfl (OpR.offF rfl rfl (by repeat (first | with_reducible (first | exact qS | assumption) | refine qN rfl ?_ | exact qO rfl)) ?_)
      refine RP.p rfl (OpP.offF rfl rfl (by repeat (first | with_reducible (first | exact qS | assumption) | refine qN rfl ?_ | exact qO rfl)) ?_)
      refine RP.p rfl (op_pick_f (qT (by repeat (first | with_reducible (first | exact qS | assumption) | refine qN rfl ?_ | exact qO rfl))) rfl ?_)
      refine RP.nil ?_
      refine Gives.else_ (qT (by repeat (first | with_reducible (first | exact qS | assumption) | refine qN rfl ?_ | exact qO rfl))) ?_
      refine Gives.exit_same ?_
      exact ⟨(by repeat (first | with_reducible (first | exact qS | assumption) | refine qN rfl ?_ | exact qO rfl)), (by repeat (first | with_reducible (first | exact qS | assumption) | refine qN rfl ?_ | exact qO rfl)), (by repeat (first | with_reducible (first | exact qS | assumption) | refine qN rfl ?_ | exact qO rfl)), (by repeat (first | with_reducible (first | exact qS | assumption) | refine qN rfl ?_ | exact qO rfl)), (by repeat (first | with_reducible (first | exact qS | assumption) | refine qN rfl ?_ | exact qO rfl)), inp, D, hM⟩
  clear in0 in1 in2 hVM2 hm1 hm2 hvl hF1 hF2
  rintro F h3 ⟨e1, e2, e3, e7, e8, inp, D, hM⟩
  refine Gives.seq ?_
  refine Gives.region [.p 0, .e 1 [], .p 2, .p 3, .p 4, .p 5, .p 6] (by kernel_rfl) ?_
  refine RP.p rfl (op_move (qT (by repeat (first | with_reducible (first | exact qS | assumption) | refine qN rfl ?_ | exact qO rfl))) ?_)
  refine RP.e rfl (op_calls (evs_cons (qT (by repeat (first | with_reducible (first | exact qS | assumption) | refine qN rfl ?_ | exact qO rfl))) evs_nil) (by kernel_rfl) (load_spec hS hL hM) ?_)
  rintro v h4 ⟨⟨s1, l1, r1, rfl, ho1, hr1⟩, hM4, hF4⟩
  have in4 := inp.fr hM.m.wf hF4 htwo
  obtain ⟨t1, t2, t3⟩ := hM.lts
  have htl : ∀ b, two bm bw b → b < h3.next := fun b hb => by rcases hb with rfl | rfl <;> assumption
  refine RP.p rfl (op_move (qT (by repeat (first | with_reducible (first | exact qS | assumption) | refine qN rfl ?_ | exact qO rfl))) ?_)
  refine RP.p rfl (op_extract (qT (by repeat (first | with_reducible (first | exact qS | assumption) | refine qN rfl ?_ | exact qO rfl))) rfl ?_)
  refine RP.p rfl (op_extract (qT (by repeat (first | with_reducible (first | exact qS | assumption) | refine qN rfl ?_ | exact qO rfl))) rfl ?_)
  refine RP.p rfl (op_assign (qT (by repeat (first | with_reducible (first | exact qS | assumption) | refine qN rfl ?_ | exact qO rfl))) ?_)
  refine RP.p rfl (op_assign (qT (by repeat (first | with_reducible (first | exact qS | assumption) | refine qN rfl ?_ | exact qO rfl))) ?_)
  refine RP.nil ?_
  refine Gives.seq ?_
  refine Gives.region [.p 0, .p 1, .p 2, .e 3 [], .p 4] (by kernel_rfl) ?_
  refine RP.p rfl (op_move (qT (by repeat (first | with_reducible (first | exact qS | assumption) | refine qN rfl ?_ | exact qO rfl))) ?_)
  refine RP.p rfl (op_move (qT (by repeat (first | with_reducible (first | exact qS | assumption) | refine qN rfl ?_ | exact qO rfl))) ?_)
  refine RP.p rfl (op_move (qT (by repeat (first | with_reducible (first | exact qS | assumption) | refine qN rfl ?_ | exact qO rfl))) ?_)
  refine RP.e rfl (op_calls (evs_cons (qT (by repeat (first | with_reducible (first | exact qS | assumption) | refine qN rfl ?_ | exact qO rfl))) (evs_cons (qT (by repeat (first | with_reducible (first | exact qS | assumption) | refine qN rfl ?_ | exact qO rfl))) (evs_cons (qT (by repeat (first | with_reducible (first | exact qS | assumption) | refine qN rfl ?_ | exact qO rfl))) evs_nil))) (by kernel_rfl) (save_spec hS hL hM4 in4.i (fun c hc => by have := in4.n c hc; omega) hIb cut) ?_)
  rintro v h5 ⟨r, D2, rfl, hM5, hF5, hr5⟩
  have in5 := in4.fr hM4.m.wf hF5 htwo
  have ho1 := ho1.fr hM4.m.wf hF5 htl
  refine RP.p rfl (op_assign (qT (by repeat (first | with_reducible (first | exact qS | assumption) | refine qN rfl ?_ | exact qO rfl))) ?_)
  refine RP.nil ?_
  refine Gives.seq ?_
  refine Gives.seq ?_
  refine Gives.region [.p 0, .r 1, .e 2 [], .p 3] (by kernel_rfl) ?_
  obtain ⟨cx, x0, x1, x2, x3, x4, x5⟩ := in5.x
  refine RP.p rfl (op_fieldAddr (off := 4) (qT (by repeat (first | with_reducible (first | exact qS | assumption) | refine qN rfl ?_ | exact qO rfl))) (by kernel_rfl) ?_)
  refine RP.r rfl (op_load (qT (by repeat (first | with_reducible (first | exact qS | assumption) | refine qN rfl ?_ | exact qO rfl))) (loadA_cell (by kernel_rfl) x0 (by omega) x5) ?_)
  refine RP.e rfl (op_calls (evs_cons (qT (by repeat (first | with_reducible (first | exact qS | assumption) | refine qN rfl ?_ | exact qO rfl))) evs_nil) (by kernel_rfl) (apart_spec hS huL hun in5.u) ?_)
  rintro v h' ⟨ra, rfl, rfl, hap⟩
  cases ra with
  | false =>
    refine RP.p rfl (op_notF (qT (by repeat (first | with_reducible (first | exact qS | assumption) | refine qN rfl ?_ | exact qO rfl))) ?_)
    refine RP.nil ?_
    refine Gives.then_ (qT (by repeat (first | with_reducible (first | exact qS | assumption) | refine qN rfl ?_ | exact qO rfl))) ?_
    refine Gives.seq ?_
    refine Gives.region [.e 0 [], .p 1] (by kernel_rfl) ?_
    refine RP.e rfl (op_calls evs_nil (by kernel_rfl) (aw_spec hA) ?_)
    rintro v h9 ⟨rfl, rfl⟩
    refine RP.p rfl (op_assign (qT (by repeat (first | with_reducible (first | exact qS | assumption) | refine qN rfl ?_ | exact qO rfl))) ?_)
    refine RP.nil ?_
    exact Gives.ret0 (RS.one (by repeat (first | with_reducible (first | exact qS | assumption) | refine qN rfl ?_ | exact qO rfl)) rfl)
  | true =>
  obtain ⟨ap1, ap2⟩ := hap rfl
  refine RP.p rfl (op_notT (qT (by repeat (first | with_reducible (first | exact qS | assumption) | refine qN rfl ?_ | exact qO rfl))) ?_)
  refine RP.nil ?_
  refine Gives.else_ (qT (by repeat (first | with_reducible (first | exact qS | assumption) | refine qN rfl ?_ | exact qO rfl))) ?_
  refine Gives.skip ?_
  refine Gives.seq ?_
  refine Gives.mono (N := fun F' h' => F'.at 1 = some sI ∧ F'.at 8 = some (.ptr bv 0) ∧ F'.at 11 = some s1 ∧ F'.at 12 = some (.int .i64 (.ofNat r1)) ∧ F'.at 13 = some (.int .i64 (.ofNat r)) ∧ Inp h' N N sz (.ofNat start) (.ofNat len) sB sU sI bf up img ∧ Own h' h3.next s1 l1 ∧ ∃ Z, VM h' bv bm bw n D2 Z start (len / 2))
    (B := fun _ _ _ => False) ?_ ?_ (fun _ _ _ hq => hq.elim)
  · refine Gives.seq ?_
    refine Gives.region [.p 0] (by kernel_rfl) ?_
    refine RP.p rfl (op_assign (show ev _ _ = some (.int .i64 (.ofNat 0)) from rfl) ?_)
    refine RP.nil ?_
    refine Gives.block ?_
    refine Gives.loop (I := fun k F' h' => ∃ i, k + i = up.length ∧ F'.at 1 = some sI ∧ F'.at 3 = some (.ptr N 0) ∧ F'.at 7 = some (.ptr bm 0) ∧ F'.at 8 = some (.ptr bv 0) ∧ F'.at 11 = some s1 ∧ F'.at 12 = some (.int .i64 (.ofNat r1)) ∧ F'.at 13 = some (.int .i64 (.ofNat r)) ∧ F'.at 14 = some (.int .i64 (.ofNat i)) ∧ Inp h' N N sz (.ofNat start) (.ofNat len) sB sU sI bf up img ∧ Own h' h3.next s1 l1 ∧
        VM h' bv bm bw n D2 (fun a => ∃ (j : Nat) (l : List Int), j < i ∧ up[j]? = some l ∧ 0 ≤ l.getD 0 0 ∧ a = (l.getD 0 0).toNat) start (len / 2))
      (fun k F h' hI => ?_) (k := up.length) (by omega) ⟨0, by omega, (by repeat (first | with_reducible (first | exact qS | assumption) | refine qN rfl ?_ | exact qO rfl)), (by repeat (first | with_reducible (first | exact qS | assumption) | refine qN rfl ?_ | exact qO rfl)), (by repeat (first | with_reducible (first | exact qS | assumption) | refine qN rfl ?_ | exact qO rfl)), (by repeat (first | with_reducible (first | exact qS | assumption) | refine qN rfl ?_ | exact qO rfl)), (by repeat (first | with_reducible (first | exact qS | assumption) | refine qN rfl ?_ | exact qO rfl)), (by repeat (first | with_reducible (first | exact qS | assumption) | refine qN rfl ?_ | exact qO rfl)), (by repeat (first | with_reducible (first | exact qS | assumption) | refine qN rfl ?_ | exact qO rfl)), (by repeat (first | with_reducible (first | exact qS | assumption) | refine qN rfl ?_ | exact qO rfl)), in5, ho1, ⟨hM5.m.wide (fun _ hq => hq.elim), hM5.v, hM5.n1, hM5.n2, hM5.le⟩⟩
    clear inp in4 in5 hM hM4 hM5 hF4 hF5 ho1 x0 x1 x2 x3 x4 x5 e1 e2 e3 e7 e8
    obtain ⟨i, hk, e1, e3, e7, e8, e11, e12, e13, e14, inp, ho1, hM⟩ := hI
    obtain ⟨cx, x0, x1, x2, x3, x4, x5⟩ := inp.x
    refine Gives.seq ?_
    refine Gives.seq ?_
    refine Gives.region [.p 0, .p 1, .r 2, .p 3, .p 4] (by kernel_rfl) ?_
    refine RP.p rfl (op_move (qT (by repeat (first | with_reducible (first | exact qS | assumption) | refine qN rfl ?_ | exact qO rfl))) ?_)
    refine RP.p rfl (op_fieldAddr (off := 4) (qT (by repeat (first | with_reducible (first | exact qS | assumption) | refine qN rfl ?_ | exact qO rfl))) (by kernel_rfl) ?_)
    refine RP.r rfl (op_load (qT (by repeat (first | with_reducible (first | exact qS | assumption) | refine qN rfl ?_ | exact qO rfl))) (loadA_cell (by kernel_rfl) x0 (by omega) x5) ?_)
    refine RP.p rfl (op_len_rows (qT (by repeat (first | with_reducible (first | exact qS | assumption) | refine qN rfl ?_ | exact qO rfl))) inp.u Tryz.underlying23 ?_)
    refine RP.p rfl (op_bin (qT (by repeat (first | with_reducible (first | exact qS | assumption) | refine qN rfl ?_ | exact qO rfl))) (qT (by repeat (first | with_reducible (first | exact qS | assumption) | refine qN rfl ?_ | exact qO rfl))) bin_lssN ?_)
    refine RP.nil ?_
    refine Gives.cond (qT (by repeat (first | with_reducible (first | exact qS | assumption) | refine qN rfl ?_ | exact qO rfl))) (fun hc => ?_) (fun hc => ?_)
    · have hi : i < up.length := of_decide_eq_true hc
      clear hc
      obtain ⟨k, rfl⟩ : ∃ m, k = m + 1 := ⟨k - 1, by omega⟩
      obtain ⟨cu, ou, pu, rfl, qu, zu⟩ := inp.u.slice (by omega)
      obtain ⟨row, hrow1, hrow2⟩ := zu i _ (List.getElem?_eq_getElem hi)
      have hr2 : up[i].length = 2 := ap1 i _ (List.getElem?_eq_getElem hi)
      obtain ⟨c1, o1, p1, rfl, q1, z1⟩ := hrow2.slice (by omega)
      refine Gives.skip ?_
      refine Gives.seq ?_
      refine Gives.block ?_
      refine Gives.region [.p 0, .p 1, .r 2, .p 3, .p 4, .r 5, .p 6, .r 7, .p 8, .r 9, .p 10, .p 11, .r 12, .p 13, .r 14, .e 15 []] (by kernel_rfl) ?_
      refine RP.p rfl (op_move (qT (by repeat (first | with_reducible (first | exact qS | assumption) | refine qN rfl ?_ | exact qO rfl))) ?_)
      refine RP.p rfl (op_fieldAddr (off := 4) (qT (by repeat (first | with_reducible (first | exact qS | assumption) | refine qN rfl ?_ | exact qO rfl))) (by kernel_rfl) ?_)
      refine RP.r rfl (op_load (qT (by repeat (first | with_reducible (first | exact qS | assumption) | refine qN rfl ?_ | exact qO rfl))) (loadA_cell (by kernel_rfl) x0 (by omega) x5) ?_)
      refine RP.p rfl (op_move (qT (by repeat (first | with_reducible (first | exact qS | assumption) | refine qN rfl ?_ | exact qO rfl))) ?_)
      refine RP.p rfl (op_indexAddr (qT (by repeat (first | with_reducible (first | exact qS | assumption) | refine qN rfl ?_ | exact qO rfl))) (qT (by repeat (first | with_reducible (first | exact qS | assumption) | refine qN rfl ?_ | exact qO rfl))) Tryz.underlying23 (by kernel_rfl) hi qu ?_)
      refine RP.r rfl (op_load (qT (by repeat (first | with_reducible (first | exact qS | assumption) | refine qN rfl ?_ | exact qO rfl))) hrow1 ?_)
      refine RP.p rfl (op_indexAddr (qT (by repeat (first | with_reducible (first | exact qS | assumption) | refine qN rfl ?_ | exact qO rfl))) (show ev _ _ = some (.int .i64 (.ofNat 0)) from rfl) Tryz.underlying22 (by kernel_rfl) (by omega) q1 ?_)
      refine RP.r rfl (op_load (qT (by repeat (first | with_reducible (first | exact qS | assumption) | refine qN rfl ?_ | exact qO rfl))) (z1 0 _ (getD_some (by omega))) ?_)
      refine RP.p rfl (op_fieldAddr (off := 4) (qT (by repeat (first | with_reducible (first | exact qS | assumption) | refine qN rfl ?_ | exact qO rfl))) (by kernel_rfl) ?_)
      refine RP.r rfl (op_load (qT (by repeat (first | with_reducible (first | exact qS | assumption) | refine qN rfl ?_ | exact qO rfl))) (loadA_cell (by kernel_rfl) x0 (by omega) x5) ?_)
      refine RP.p rfl (op_move (qT (by repeat (first | with_reducible (first | exact qS | assumption) | refine qN rfl ?_ | exact qO rfl))) ?_)
      refine RP.p rfl (op_indexAddr (qT (by repeat (first | with_reducible (first | exact qS | assumption) | refine qN rfl ?_ | exact qO rfl))) (qT (by repeat (first | with_reducible (first | exact qS | assumption) | refine qN rfl ?_ | exact qO rfl))) Tryz.underlying23 (by kernel_rfl) hi qu ?_)
      refine RP.r rfl (op_load (qT (by repeat (first | with_reducible (first | exact qS | assumption) | refine qN rfl ?_ | exact qO rfl))) hrow1 ?_)
      refine RP.p rfl (op_indexAddr (qT (by repeat (first | with_reducible (first | exact qS | assumption) | refine qN rfl ?_ | exact qO rfl))) (show ev _ _ = some (.int .i64 (.ofNat 1)) from rfl) Tryz.underlying22 (by kernel_rfl) (by omega) q1 ?_)
      refine RP.r rfl (op_load (qT (by repeat (first | with_reducible (first | exact qS | assumption) | refine qN rfl ?_ | exact qO rfl))) (z1 1 _ (getD_some (by omega))) ?_)
      refine RP.e rfl (op_calls (evs_cons (qT (by repeat (first | with_reducible (first | exact qS | assumption) | refine qN rfl ?_ | exact qO rfl))) (evs_cons (qT (by repeat (first | with_reducible (first | exact qS | assumption) | refine qN rfl ?_ | exact qO rfl))) (evs_cons (qT (by repeat (first | with_reducible (first | exact qS | assumption) | refine qN rfl ?_ | exact qO rfl))) evs_nil))) (by kernel_rfl) (mflip_spec hS hM.m (up[i].getD 0 0) (up[i].getD 1 0) (fun hge hz => ?_)) ?_)
      · obtain ⟨j, l, hj, hl, hl0, heq⟩ := hz
        exact ap2 i j l _ hj hl (List.getElem?_eq_getElem hi) (by omega)
      rintro v h8 ⟨⟨rr, rfl⟩, hm8, hf8⟩
      have hM8 := hM.fr2 hf8 hm8
      have in8 := inp.fr hM.m.wf hf8 htwo
      have ho8 := ho1.fr hM.m.wf hf8 htl
      refine RP.nil ?_
      refine Gives.region [.p 0, .p 1, .p 2] (by kernel_rfl) ?_
      refine RP.p rfl (op_move (qT (by repeat (first | with_reducible (first | exact qS | assumption) | refine qN rfl ?_ | exact qO rfl))) ?_)
      refine RP.p rfl (op_bin (qT (by repeat (first | with_reducible (first | exact qS | assumption) | refine qN rfl ?_ | exact qO rfl))) (show ev _ _ = some (.int .i64 (.ofNat 1)) from rfl) (bin_add (by have e1 : topK .i64 = 9223372036854775808 := rfl; have e2 : topK .u32 = 4294967296 := rfl; have e3 : topK .u64 = 18446744073709551616 := rfl; have e4 : topK .u8 = 256 := rfl; have e5 : topK .u16 = 65536 := rfl; omega)) ?_)
      refine RP.p rfl (op_assign (qT (by repeat (first | with_reducible (first | exact qS | assumption) | refine qN rfl ?_ | exact qO rfl))) ?_)
      refine RP.nil ?_
      refine ⟨k, by omega, i + 1, by omega, (by repeat (first | with_reducible (first | exact qS | assumption) | refine qN rfl ?_ | exact qO rfl)), (by repeat (first | with_reducible (first | exact qS | assumption) | refine qN rfl ?_ | exact qO rfl)), (by repeat (first | with_reducible (first | exact qS | assumption) | refine qN rfl ?_ | exact qO rfl)), (by repeat (first | with_reducible (first | exact qS | assumption) | refine qN rfl ?_ | exact qO rfl)), (by repeat (first | with_reducible (first | exact qS | assumption) | refine qN rfl ?_ | exact qO rfl)), (by repeat (first | with_reducible (first | exact qS | assumption) | refine qN rfl ?_ | exact qO rfl)), (by repeat (first | with_reducible (first | exact qS | assumption) | refine qN rfl ?_ | exact qO rfl)), (by repeat (first | with_reducible (first | exact qS | assumption) | refine qN rfl ?_ | exact qO rfl)), in8, ho8, ⟨hM8.m.wide (fun a hz => ?_), hM8.v, hM8.n1, hM8.n2, hM8.le⟩⟩
      rcases hz with ⟨j, l, hj, hl, hl0, heq⟩ | ⟨hge, heq⟩
      · exact ⟨j, l, by omega, hl, hl0, heq⟩
      · exact ⟨i, _, by omega, List.getElem?_eq_getElem hi, hge, heq⟩
    · refine Gives.exit_same ?_
      exact ⟨(by repeat (first | with_reducible (first | exact qS | assumption) | refine qN rfl ?_ | exact qO rfl)), (by repeat (first | with_reducible (first | exact qS | assumption) | refine qN rfl ?_ | exact qO rfl)), (by repeat (first | with_reducible (first | exact qS | assumption) | refine qN rfl ?_ | exact qO rfl)), (by repeat (first | with_reducible (first | exact qS | assumption) | refine qN rfl ?_ | exact qO rfl)), (by repeat (first | with_reducible (first | exact qS | assumption) | refine qN rfl ?_ | exact qO rfl)), inp, ho1, _, hM⟩
  clear inp in4 in5 hM hM4 hM5 hF4 hF5 ho1 x0 x1 x2 x3 x4 x5 e1 e2 e3 e7 e8
  rintro F h6 ⟨e1, e8, e11, e12, e13, inp, ho1, Z, hM⟩
  refine Gives.seq ?_
  refine Gives.region [.p 0, .e 1 [], .p 2, .p 3, .p 4, .p 5, .p 6] (by kernel_rfl) ?_
  refine RP.p rfl (op_move (qT (by repeat (first | with_reducible (first | exact qS | assumption) | refine qN rfl ?_ | exact qO rfl))) ?_)
  refine RP.e rfl (op_calls (evs_cons (qT (by repeat (first | with_reducible (first | exact qS | assumption) | refine qN rfl ?_ | exact qO rfl))) evs_nil) (by kernel_rfl) (load_spec hS hL hM) ?_)
  rintro v h7 ⟨⟨s3, l3, r3, rfl, ho3, hr3⟩, hM7, hF7⟩
  have in7 := inp.fr hM.m.wf hF7 htwo
  have ho1 := ho1.fr hM.m.wf hF7 htl
  refine RP.p rfl (op_move (qT (by repeat (first | with_reducible (first | exact qS | assumption) | refine qN rfl ?_ | exact qO rfl))) ?_)
  refine RP.p rfl (op_extract (qT (by repeat (first | with_reducible (first | exact qS | assumption) | refine qN rfl ?_ | exact qO rfl))) rfl ?_)
  refine RP.p rfl (op_extract (qT (by repeat (first | with_reducible (first | exact qS | assumption) | refine qN rfl ?_ | exact qO rfl))) rfl ?_)
  refine RP.p rfl (op_assign (qT (by repeat (first | with_reducible (first | exact qS | assumption) | refine qN rfl ?_ | exact qO rfl))) ?_)
  refine RP.p rfl (op_assign (qT (by repeat (first | with_reducible (first | exact qS | assumption) | refine qN rfl ?_ | exact qO rfl))) ?_)
  refine RP.nil ?_
  refine Gives.seq ?_
  refine Gives.seq ?_
  refine Gives.region [.p 0, .p 1] (by kernel_rfl) ?_
  rcases hr5 with ⟨rfl, hld⟩ | ⟨hr, hld⟩
  · rw [hld] at hr3
    obtain ⟨rfl, rfl⟩ := hr3
    refine RP.p rfl (op_move (qT (by repeat (first | with_reducible (first | exact qS | assumption) | refine qN rfl ?_ | exact qO rfl))) ?_)
    refine RP.p rfl (op_bin (qT (by repeat (first | with_reducible (first | exact qS | assumption) | refine qN rfl ?_ | exact qO rfl))) (show ev _ _ = some (.int .i64 (.ofNat 0)) from rfl) (bin_eql_t rfl) ?_)
    refine RP.nil ?_
    refine Gives.then_ (qT (by repeat (first | with_reducible (first | exact qS | assumption) | refine qN rfl ?_ | exact qO rfl))) ?_
    refine Gives.seq ?_
    refine Gives.region [.p 0, .p 1, .p 2, .p 3, .r 4, .p 5, .r 6, .p 7, .p 8, .p 9, .e 10 [], .p 11, .p 12] (by kernel_rfl) ?_
    refine RP.p rfl (op_move (qT (by repeat (first | with_reducible (first | exact qS | assumption) | refine qN rfl ?_ | exact qO rfl))) ?_)
    refine RP.p rfl (op_bin (qT (by repeat (first | with_reducible (first | exact qS | assumption) | refine qN rfl ?_ | exact qO rfl))) (show ev _ _ = some (.int .i64 (.ofNat 0)) from rfl) (bin_eql_t rfl) ?_)
    refine RP.p rfl (op_move (qT (by repeat (first | with_reducible (first | exact qS | assumption) | refine qN rfl ?_ | exact qO rfl))) ?_)
    refine RP.p rfl (OpP.on' rfl rfl (by repeat (first | with_reducible (first | exact qS | assumption) | refine qN rfl ?_ | exact qO rfl)) (op_move (qT (by repeat (first | with_reducible (first | exact qS | assumption) | refine qN rfl ?_ | exact qO rfl))) ?_))
    refine RP.r rfl (OpR.on' rfl rfl (by repeat (first | with_reducible (first | exact qS | assumption) | refine qN rfl ?_ | exact qO rfl)) (op_str (qT (by repeat (first | with_reducible (first | exact qS | assumption) | refine qN rfl ?_ | exact qO rfl))) ho3.img Tryz.underlying26 Tryz.underlying9 Tryz.underlying5 (by kernel_rfl) ?_))
    refine RP.p rfl (OpP.on' rfl rfl (by repeat (first | with_reducible (first | exact qS | assumption) | refine qN rfl ?_ | exact qO rfl)) (op_move (qT (by repeat (first | with_reducible (first | exact qS | assumption) | refine qN rfl ?_ | exact qO rfl))) ?_))
    refine RP.r rfl (OpR.on' rfl rfl (by repeat (first | with_reducible (first | exact qS | assumption) | refine qN rfl ?_ | exact qO rfl)) (op_str (qT (by repeat (first | with_reducible (first | exact qS | assumption) | refine qN rfl ?_ | exact qO rfl))) in7.i Tryz.underlying26 Tryz.underlying9 Tryz.underlying5 (by kernel_rfl) ?_))
    refine RP.p rfl (OpP.on' rfl rfl (by repeat (first | with_reducible (first | exact qS | assumption) | refine qN rfl ?_ | exact qO rfl)) (op_bin (qT (by repeat (first | with_reducible (first | exact qS | assumption) | refine qN rfl ?_ | exact qO rfl))) (qT (by repeat (first | with_reducible (first | exact qS | assumption) | refine qN rfl ?_ | exact qO rfl))) bin_eql_str ?_))
    refine RP.p rfl (op_pick_t (qT (by repeat (first | with_reducible (first | exact qS | assumption) | refine qN rfl ?_ | exact qO rfl))) (qT (by repeat (first | with_reducible (first | exact qS | assumption) | refine qN rfl ?_ | exact qO rfl))) ?_)
    refine RP.p rfl (op_move (qT (by repeat (first | with_reducible (first | exact qS | assumption) | refine qN rfl ?_ | exact qO rfl))) ?_)
    refine RP.e rfl (OpE.on' rfl rfl (by repeat (first | with_reducible (first | exact qS | assumption) | refine qN rfl ?_ | exact qO rfl)) (op_calls evs_nil (by kernel_rfl) (aw_spec hA) ?_))
    rintro v h9 ⟨rfl, rfl⟩
    refine RP.p rfl (op_pick_t (qT (by repeat (first | with_reducible (first | exact qS | assumption) | refine qN rfl ?_ | exact qO rfl))) (qT (by repeat (first | with_reducible (first | exact qS | assumption) | refine qN rfl ?_ | exact qO rfl))) ?_)
    refine RP.p rfl (op_assign (qT (by repeat (first | with_reducible (first | exact qS | assumption) | refine qN rfl ?_ | exact qO rfl))) ?_)
    refine RP.nil ?_
    exact Gives.ret0 (RS.one (by repeat (first | with_reducible (first | exact qS | assumption) | refine qN rfl ?_ | exact qO rfl)) rfl)
  · rw [hld] at hr3
    have hsame : r3 = r1 ∧ l3 = l1 := by
      cases hq : loadS D start (len / 2) with
      | none => rw [hq] at hr1 hr3; exact ⟨hr3.1.trans hr1.1.symm, hr3.2.trans hr1.2.symm⟩
      | some q => rw [hq] at hr1 hr3; exact ⟨hr3.1.trans hr1.1.symm, hr3.2.trans hr1.2.symm⟩
    obtain ⟨rfl, rfl⟩ := hsame
    refine RP.p rfl (op_move (qT (by repeat (first | with_reducible (first | exact qS | assumption) | refine qN rfl ?_ | exact qO rfl))) ?_)
    refine RP.p rfl (op_bin (qT (by repeat (first | with_reducible (first | exact qS | assumption) | refine qN rfl ?_ | exact qO rfl))) (show ev _ _ = some (.int .i64 (.ofNat 0)) from rfl) (bin_eql_f (by omega)) ?_)
    refine RP.nil ?_
    refine Gives.else_ (qT (by repeat (first | with_reducible (first | exact qS | assumption) | refine qN rfl ?_ | exact qO rfl))) ?_
    refine Gives.skip ?_
    refine Gives.seq ?_
    refine Gives.region [.p 0, .p 1, .p 2, .p 3, .p 4, .p 5, .p 6, .p 7, .p 8, .p 9, .p 10, .p 11, .p 12, .p 13, .p 14, .p 15, .p 16, .r 17, .p 18, .r 19, .p 20, .p 21, .p 22, .e 23 [], .p 24, .p 25] (by kernel_rfl) ?_
    rcases hr with rfl | rfl | rfl
    · refine RP.p rfl (op_move (qT (by repeat (first | with_reducible (first | exact qS | assumption) | refine qN rfl ?_ | exact qO rfl))) ?_)
      refine RP.p rfl (op_bin (qT (by repeat (first | with_reducible (first | exact qS | assumption) | refine qN rfl ?_ | exact qO rfl))) (show ev _ _ = some (.int .i64 (.ofNat 17)) from rfl) (bin_eql_f (by decide)) ?_)
      refine RP.p rfl (op_move (qT (by repeat (first | with_reducible (first | exact qS | assumption) | refine qN rfl ?_ | exact qO rfl))) ?_)
      refine RP.p rfl (OpP.on' rfl rfl (by repeat (first | with_reducible (first | exact qS | assumption) | refine qN rfl ?_ | exact qO rfl)) (op_move (qT (by repeat (first | with_reducible (first | exact qS | assumption) | refine qN rfl ?_ | exact qO rfl))) ?_))
      refine RP.p rfl (OpP.on' rfl rfl (by repeat (first | with_reducible (first | exact qS | assumption) | refine qN rfl ?_ | exact qO rfl)) (op_bin (qT (by repeat (first | with_reducible (first | exact qS | assumption) | refine qN rfl ?_ | exact qO rfl))) (show ev _ _ = some (.int .i64 (.ofNat 6)) from rfl) (bin_eql_t rfl) ?_))
      refine RP.p rfl (op_pick_f (qT (by repeat (first | with_reducible (first | exact qS | assumption) | refine qN rfl ?_ | exact qO rfl))) (qT (by repeat (first | with_reducible (first | exact qS | assumption) | refine qN rfl ?_ | exact qO rfl))) ?_)
      refine RP.p rfl (op_move (qT (by repeat (first | with_reducible (first | exact qS | assumption) | refine qN rfl ?_ | exact qO rfl))) ?_)
      refine RP.p rfl (OpP.offT rfl rfl (by repeat (first | with_reducible (first | exact qS | assumption) | refine qN rfl ?_ | exact qO rfl)) ?_)
      refine RP.p rfl (OpP.offT rfl rfl (by repeat (first | with_reducible (first | exact qS | assumption) | refine qN rfl ?_ | exact qO rfl)) ?_)
      refine RP.p rfl (op_pick_t (qT (by repeat (first | with_reducible (first | exact qS | assumption) | refine qN rfl ?_ | exact qO rfl))) rfl ?_)
      refine RP.p rfl (op_move (qT (by repeat (first | with_reducible (first | exact qS | assumption) | refine qN rfl ?_ | exact qO rfl))) ?_)
      refine RP.p rfl (OpP.on' rfl rfl (by repeat (first | with_reducible (first | exact qS | assumption) | refine qN rfl ?_ | exact qO rfl)) (op_move (qT (by repeat (first | with_reducible (first | exact qS | assumption) | refine qN rfl ?_ | exact qO rfl))) ?_))
      refine RP.p rfl (OpP.on' rfl rfl (by repeat (first | with_reducible (first | exact qS | assumption) | refine qN rfl ?_ | exact qO rfl)) (op_move (qT (by repeat (first | with_reducible (first | exact qS | assumption) | refine qN rfl ?_ | exact qO rfl))) ?_))
      refine RP.p rfl (OpP.on' rfl rfl (by repeat (first | with_reducible (first | exact qS | assumption) | refine qN rfl ?_ | exact qO rfl)) (op_bin (qT (by repeat (first | with_reducible (first | exact qS | assumption) | refine qN rfl ?_ | exact qO rfl))) (qT (by repeat (first | with_reducible (first | exact qS | assumption) | refine qN rfl ?_ | exact qO rfl))) (bin_eql_t rfl) ?_))
      refine RP.p rfl (op_pick_t (qT (by repeat (first | with_reducible (first | exact qS | assumption) | refine qN rfl ?_ | exact qO rfl))) (qT (by repeat (first | with_reducible (first | exact qS | assumption) | refine qN rfl ?_ | exact qO rfl))) ?_)
      refine RP.p rfl (op_move (qT (by repeat (first | with_reducible (first | exact qS | assumption) | refine qN rfl ?_ | exact qO rfl))) ?_)
      refine RP.p rfl (OpP.on' rfl rfl (by repeat (first | with_reducible (first | exact qS | assumption) | refine qN rfl ?_ | exact qO rfl)) (op_move (qT (by repeat (first | with_reducible (first | exact qS | assumption) | refine qN rfl ?_ | exact qO rfl))) ?_))
      refine RP.r rfl (OpR.on' rfl rfl (by repeat (first | with_reducible (first | exact qS | assumption) | refine qN rfl ?_ | exact qO rfl)) (op_str (qT (by repeat (first | with_reducible (first | exact qS | assumption) | refine qN rfl ?_ | exact qO rfl))) ho3.img Tryz.underlying26 Tryz.underlying9 Tryz.underlying5 (by kernel_rfl) ?_))
      refine RP.p rfl (OpP.on' rfl rfl (by repeat (first | with_reducible (first | exact qS | assumption) | refine qN rfl ?_ | exact qO rfl)) (op_move (qT (by repeat (first | with_reducible (first | exact qS | assumption) | refine qN rfl ?_ | exact qO rfl))) ?_))
      refine RP.r rfl (OpR.on' rfl rfl (by repeat (first | with_reducible (first | exact qS | assumption) | refine qN rfl ?_ | exact qO rfl)) (op_str (qT (by repeat (first | with_reducible (first | exact qS | assumption) | refine qN rfl ?_ | exact qO rfl))) ho1.img Tryz.underlying26 Tryz.underlying9 Tryz.underlying5 (by kernel_rfl) ?_))
      refine RP.p rfl (OpP.on' rfl rfl (by repeat (first | with_reducible (first | exact qS | assumption) | refine qN rfl ?_ | exact qO rfl)) (op_bin (qT (by repeat (first | with_reducible (first | exact qS | assumption) | refine qN rfl ?_ | exact qO rfl))) (qT (by repeat (first | with_reducible (first | exact qS | assumption) | refine qN rfl ?_ | exact qO rfl))) bin_eql_str ?_))
      refine RP.p rfl (op_pick_t (qT (by repeat (first | with_reducible (first | exact qS | assumption) | refine qN rfl ?_ | exact qO rfl))) (qT (by repeat (first | with_reducible (first | exact qS | assumption) | refine qN rfl ?_ | exact qO rfl))) ?_)
      refine RP.p rfl (op_move (qT (by repeat (first | with_reducible (first | exact qS | assumption) | refine qN rfl ?_ | exact qO rfl))) ?_)
      refine RP.e rfl (OpE.on' rfl rfl (by repeat (first | with_reducible (first | exact qS | assumption) | refine qN rfl ?_ | exact qO rfl)) (op_calls evs_nil (by kernel_rfl) (aw_spec hA) ?_))
      rintro v h9 ⟨rfl, rfl⟩
      refine RP.p rfl (op_pick_t (qT (by repeat (first | with_reducible (first | exact qS | assumption) | refine qN rfl ?_ | exact qO rfl))) (qT (by repeat (first | with_reducible (first | exact qS | assumption) | refine qN rfl ?_ | exact qO rfl))) ?_)
      refine RP.p rfl (op_assign (qT (by repeat (first | with_reducible (first | exact qS | assumption) | refine qN rfl ?_ | exact qO rfl))) ?_)
      refine RP.nil ?_
      exact Gives.ret0 (RS.one (by repeat (first | with_reducible (first | exact qS | assumption) | refine qN rfl ?_ | exact qO rfl)) rfl)
    · refine RP.p rfl (op_move (qT (by repeat (first | with_reducible (first | exact qS | assumption) | refine qN rfl ?_ | exact qO rfl))) ?_)
      refine RP.p rfl (op_bin (qT (by repeat (first | with_reducible (first | exact qS | assumption) | refine qN rfl ?_ | exact qO rfl))) (show ev _ _ = some (.int .i64 (.ofNat 17)) from rfl) (bin_eql_f (by decide)) ?_)
      refine RP.p rfl (op_move (qT (by repeat (first | with_reducible (first | exact qS | assumption) | refine qN rfl ?_ | exact qO rfl))) ?_)
      refine RP.p rfl (OpP.on' rfl rfl (by repeat (first | with_reducible (first | exact qS | assumption) | refine qN rfl ?_ | exact qO rfl)) (op_move (qT (by repeat (first | with_reducible (first | exact qS | assumption) | refine qN rfl ?_ | exact qO rfl))) ?_))
      refine RP.p rfl (OpP.on' rfl rfl (by repeat (first | with_reducible (first | exact qS | assumption) | refine qN rfl ?_ | exact qO rfl)) (op_bin (qT (by repeat (first | with_reducible (first | exact qS | assumption) | refine qN rfl ?_ | exact qO rfl))) (show ev _ _ = some (.int .i64 (.ofNat 6)) from rfl) (bin_eql_f (by decide)) ?_))
      refine RP.p rfl (op_pick_f (qT (by repeat (first | with_reducible (first | exact qS | assumption) | refine qN rfl ?_ | exact qO rfl))) (qT (by repeat (first | with_reducible (first | exact qS | assumption) | refine qN rfl ?_ | exact qO rfl))) ?_)
      refine RP.p rfl (op_move (qT (by repeat (first | with_reducible (first | exact qS | assumption) | refine qN rfl ?_ | exact qO rfl))) ?_)
      refine RP.p rfl (OpP.on' rfl rfl (by repeat (first | with_reducible (first | exact qS | assumption) | refine qN rfl ?_ | exact qO rfl)) (op_move (qT (by repeat (first | with_reducible (first | exact qS | assumption) | refine qN rfl ?_ | exact qO rfl))) ?_))
      refine RP.p rfl (OpP.on' rfl rfl (by repeat (first | with_reducible (first | exact qS | assumption) | refine qN rfl ?_ | exact qO rfl)) (op_bin (qT (by repeat (first | with_reducible (first | exact qS | assumption) | refine qN rfl ?_ | exact qO rfl))) (show ev _ _ = some (.int .i64 (.ofNat 7)) from rfl) (bin_eql_t rfl) ?_))
      refine RP.p rfl (op_pick_f (qT (by repeat (first | with_reducible (first | exact qS | assumption) | refine qN rfl ?_ | exact qO rfl))) (qT (by repeat (first | with_reducible (first | exact qS | assumption) | refine qN rfl ?_ | exact qO rfl))) ?_)
      refine RP.p rfl (op_move (qT (by repeat (first | with_reducible (first | exact qS | assumption) | refine qN rfl ?_ | exact qO rfl))) ?_)
      refine RP.p rfl (OpP.on' rfl rfl (by repeat (first | with_reducible (first | exact qS | assumption) | refine qN rfl ?_ | exact qO rfl)) (op_move (qT (by repeat (first | with_reducible (first | exact qS | assumption) | refine qN rfl ?_ | exact qO rfl))) ?_))
      refine RP.p rfl (OpP.on' rfl rfl (by repeat (first | with_reducible (first | exact qS | assumption) | refine qN rfl ?_ | exact qO rfl)) (op_move (qT (by repeat (first | with_reducible (first | exact qS | assumption) | refine qN rfl ?_ | exact qO rfl))) ?_))
      refine RP.p rfl (OpP.on' rfl rfl (by repeat (first | with_reducible (first | exact qS | assumption) | refine qN rfl ?_ | exact qO rfl)) (op_bin (qT (by repeat (first | with_reducible (first | exact qS | assumption) | refine qN rfl ?_ | exact qO rfl))) (qT (by repeat (first | with_reducible (first | exact qS | assumption) | refine qN rfl ?_ | exact qO rfl))) (bin_eql_t rfl) ?_))
      refine RP.p rfl (op_pick_t (qT (by repeat (first | with_reducible (first | exact qS | assumption) | refine qN rfl ?_ | exact qO rfl))) (qT (by repeat (first | with_reducible (first | exact qS | assumption) | refine qN rfl ?_ | exact qO rfl))) ?_)
      refine RP.p rfl (op_move (qT (by repeat (first | with_reducible (first | exact qS | assumption) | refine qN rfl ?_ | exact qO rfl))) ?_)
      refine RP.p rfl (OpP.on' rfl rfl (by repeat (first | with_reducible (first | exact qS | assumption) | refine qN rfl ?_ | exact qO rfl)) (op_move (qT (by repeat (first | with_reducible (first | exact qS | assumption) | refine qN rfl ?_ | exact qO rfl))) ?_))
      refine RP.r rfl (OpR.on' rfl rfl (by repeat (first | with_reducible (first | exact qS | assumption) | refine qN rfl ?_ | exact qO rfl)) (op_str (qT (by repeat (first | with_reducible (first | exact qS | assumption) | refine qN rfl ?_ | exact qO rfl))) ho3.img Tryz.underlying26 Tryz.underlying9 Tryz.underlying5 (by kernel_rfl) ?_))
      refine RP.p rfl (OpP.on' rfl rfl (by repeat (first | with_reducible (first | exact qS | assumption) | refine qN rfl ?_ | exact qO rfl)) (op_move (qT (by repeat (first | with_reducible (first | exact qS | assumption) | refine qN rfl ?_ | exact qO rfl))) ?_))
      refine RP.r rfl (OpR.on' rfl rfl (by repeat (first | with_reducible (first | exact qS | assumption) | refine qN rfl ?_ | exact qO rfl)) (op_str (qT (by repeat (first | with_reducible (first | exact qS | assumption) | refine qN rfl ?_ | exact qO rfl))) ho1.img Tryz.underlying26 Tryz.underlying9 Tryz.underlying5 (by kernel_rfl) ?_))
      refine RP.p rfl (OpP.on' rfl rfl (by repeat (first | with_reducible (first | exact qS | assumption) | refine qN rfl ?_ | exact qO rfl)) (op_bin (qT (by repeat (first | with_reducible (first | exact qS | assumption) | refine qN rfl ?_ | exact qO rfl))) (qT (by repeat (first | with_reducible (first | exact qS | assumption) | refine qN rfl ?_ | exact qO rfl))) bin_eql_str ?_))
      refine RP.p rfl (op_pick_t (qT (by repeat (first | with_reducible (first | exact qS | assumption) | refine qN rfl ?_ | exact qO rfl))) (qT (by repeat (first | with_reducible (first | exact qS | assumption) | refine qN rfl ?_ | exact qO rfl))) ?_)
      refine RP.p rfl (op_move (qT (by repeat (first | with_reducible (first | exact qS | assumption) | refine qN rfl ?_ | exact qO rfl))) ?_)
      refine RP.e rfl (OpE.on' rfl rfl (by repeat (first | with_reducible (first | exact qS | assumption) | refine qN rfl ?_ | exact qO rfl)) (op_calls evs_nil (by kernel_rfl) (aw_spec hA) ?_))
      rintro v h9 ⟨rfl, rfl⟩
      refine RP.p rfl (op_pick_t (qT (by repeat (first | with_reducible (first | exact qS | assumption) | refine qN rfl ?_ | exact qO rfl))) (qT (by repeat (first | with_reducible (first | exact qS | assumption) | refine qN rfl ?_ | exact qO rfl))) ?_)
      refine RP.p rfl (op_assign (qT (by repeat (first | with_reducible (first | exact qS | assumption) | refine qN rfl ?_ | exact qO rfl))) ?_)
      refine RP.nil ?_
      exact Gives.ret0 (RS.one (by repeat (first | with_reducible (first | exact qS | assumption) | refine qN rfl ?_ | exact qO rfl)) rfl)
    · refine RP.p rfl (op_move (qT (by repeat (first | with_reducible (first | exact qS | assumption) | refine qN rfl ?_ | exact qO rfl))) ?_)
      refine RP.p rfl (op_bin (qT (by repeat (first | with_reducible (first | exact qS | assumption) | refine qN rfl ?_ | exact qO rfl))) (show ev _ _ = some (.int .i64 (.ofNat 17)) from rfl) (bin_eql_t rfl) ?_)
      refine RP.p rfl (op_move (qT (by repeat (first | with_reducible (first | exact qS | assumption) | refine qN rfl ?_ | exact qO rfl))) ?_)
      refine RP.p rfl (OpP.offT rfl rfl (by repeat (first | with_reducible (first | exact qS | assumption) | refine qN rfl ?_ | exact qO rfl)) ?_)
      refine RP.p rfl (OpP.offT rfl rfl (by repeat (first | with_reducible (first | exact qS | assumption) | refine qN rfl ?_ | exact qO rfl)) ?_)
      refine RP.p rfl (op_pick_t (qT (by repeat (first | with_reducible (first | exact qS | assumption) | refine qN rfl ?_ | exact qO rfl))) rfl ?_)
      refine RP.p rfl (op_move (qT (by repeat (first | with_reducible (first | exact qS | assumption) | refine qN rfl ?_ | exact qO rfl))) ?_)
      refine RP.p rfl (OpP.offT rfl rfl (by repeat (first | with_reducible (first | exact qS | assumption) | refine qN rfl ?_ | exact qO rfl)) ?_)
      refine RP.p rfl (OpP.offT rfl rfl (by repeat (first | with_reducible (first | exact qS | assumption) | refine qN rfl ?_ | exact qO rfl)) ?_)
      refine RP.p rfl (op_pick_t (qT (by repeat (first | with_reducible (first | exact qS | assumption) | refine qN rfl ?_ | exact qO rfl))) rfl ?_)
      refine RP.p rfl (op_move (qT (by repeat (first | with_reducible (first | exact qS | assumption) | refine qN rfl ?_ | exact qO rfl))) ?_)
      refine RP.p rfl (OpP.on' rfl rfl (by repeat (first | with_reducible (first | exact qS | assumption) | refine qN rfl ?_ | exact qO rfl)) (op_move (qT (by repeat (first | with_reducible (first | exact qS | assumption) | refine qN rfl ?_ | exact qO rfl))) ?_))
      refine RP.p rfl (OpP.on' rfl rfl (by repeat (first | with_reducible (first | exact qS | assumption) | refine qN rfl ?_ | exact qO rfl)) (op_move (qT (by repeat (first | with_reducible (first | exact qS | assumption) | refine qN rfl ?_ | exact qO rfl))) ?_))
      refine RP.p rfl (OpP.on' rfl rfl (by repeat (first | with_reducible (first | exact qS | assumption) | refine qN rfl ?_ | exact qO rfl)) (op_bin (qT (by repeat (first | with_reducible (first | exact qS | assumption) | refine qN rfl ?_ | exact qO rfl))) (qT (by repeat (first | with_reducible (first | exact qS | assumption) | refine qN rfl ?_ | exact qO rfl))) (bin_eql_t rfl) ?_))
      refine RP.p rfl (op_pick_t (qT (by repeat (first | with_reducible (first | exact qS | assumption) | refine qN rfl ?_ | exact qO rfl))) (qT (by repeat (first | with_reducible (first | exact qS | assumption) | refine qN rfl ?_ | exact qO rfl))) ?_)
      refine RP.p rfl (op_move (qT (by repeat (first | with_reducible (first | exact qS | assumption) | refine qN rfl ?_ | exact qO rfl))) ?_)
      refine RP.p rfl (OpP.on' rfl rfl (by repeat (first | with_reducible (first | exact qS | assumption) | refine qN rfl ?_ | exact qO rfl)) (op_move (qT (by repeat (first | with_reducible (first | exact qS | assumption) | refine qN rfl ?_ | exact qO rfl))) ?_))
      refine RP.r rfl (OpR.on' rfl rfl (by repeat (first | with_reducible (first | exact qS | assumption) | refine qN rfl ?_ | exact qO rfl)) (op_str (qT (by repeat (first | with_reducible (first | exact qS | assumption) | refine qN rfl ?_ | exact qO rfl))) ho3.img Tryz.underlying26 Tryz.underlying9 Tryz.underlying5 (by kernel_rfl) ?_))
      refine RP.p rfl (OpP.on' rfl rfl (by repeat (first | with_reducible (first | exact qS | assumption) | refine qN rfl ?_ | exact qO rfl)) (op_move (qT (by repeat (first | with_reducible (first | exact qS | assumption) | refine qN rfl ?_ | exact qO rfl))) ?_))
      refine RP.r rfl (OpR.on' rfl rfl (by repeat (first | with_reducible (first | exact qS | assumption) | refine qN rfl ?_ | exact qO rfl)) (op_str (qT (by repeat (first | with_reducible (first | exact qS | assumption) | refine qN rfl ?_ | exact qO rfl))) ho1.img Tryz.underlying26 Tryz.underlying9 Tryz.underlying5 (by kernel_rfl) ?_))
      refine RP.p rfl (OpP.on' rfl rfl (by repeat (first | with_reducible (first | exact qS | assumption) | refine qN rfl ?_ | exact qO rfl)) (op_bin (qT (by repeat (first | with_reducible (first | exact qS | assumption) | refine qN rfl ?_ | exact qO rfl))) (qT (by repeat (first | with_reducible (first | exact qS | assumption) | refine qN rfl ?_ | exact qO rfl))) bin_eql_str ?_))
      refine RP.p rfl (op_pick_t (qT (by repeat (first | with_reducible (first | exact qS | assumption) | refine qN rfl ?_ | exact qO rfl))) (qT (by repeat (first | with_reducible (first | exact qS | assumption) | refine qN rfl ?_ | exact qO rfl))) ?_)
      refine RP.p rfl (op_move (qT (by repeat (first | with_reducible (first | exact qS | assumption) | refine qN rfl ?_ | exact qO rfl))) ?_)
      refine RP.e rfl (OpE.on' rfl rfl (by repeat (first | with_reducible (first | exact qS | assumption) | refine qN rfl ?_ | exact qO rfl)) (op_calls evs_nil (by kernel_rfl) (aw_spec hA) ?_))
      rintro v h9 ⟨rfl, rfl⟩
      refine RP.p rfl (op_pick_t (qT (by repeat (first | with_reducible (first | exact qS | assumption) | refine qN rfl ?_ | exact qO rfl))) (qT (by repeat (first | with_reducible (first | exact qS | assumption) | refine qN rfl ?_ | exact qO rfl))) ?_)
      refine RP.p rfl (op_assign (qT (by repeat (first | with_reducible (first | exact qS | assumption) | refine qN rfl ?_ | exact qO rfl))) ?_)
      refine RP.nil ?_
      exact Gives.ret0 (RS.one (by repeat (first | with_reducible (first | exact qS | assumption) | refine qN rfl ?_ | exact qO rfl)) rfl)
end Go.Abs
