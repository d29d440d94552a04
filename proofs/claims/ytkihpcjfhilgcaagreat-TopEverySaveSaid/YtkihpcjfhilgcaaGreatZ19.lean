/- What the writer of octets hands out, the bytes of a row of words, and their sum. No condition. -/
import Derived.Test.YtkihpcjfhilgcaaGreatZ12
import Derived.Test.YtkihpcjfhilgcaaGreatZ18
namespace Go.Abs
open Go.Proofs
variable {X : Ext0} {S : Sums} {L : Nat} {h : H}
def Vals (h : H) (b o : Nat) (l : List AV) : Prop := ∃ m c, h.obj b = some (.cells m c) ∧ o + l.length ≤ m ∧ ∀ (i : Nat) (v : AV), l[i]? = some v → c.at (o + i) = some v
theorem Vals.fr {h h' : H} {b o : Nat} {l : List AV} (v : Vals h b o l) (w : WF h) {B : Nat → Prop} (f : Fr B h h') (hn : ¬ B b) : Vals h' b o l := by
  obtain ⟨m, c, h1, h2, h3⟩ := v
  exact ⟨m, c, f.get w h1 hn, h2, h3⟩
theorem Vals.lt {b o : Nat} {l : List AV} (v : Vals h b o l) (w : WF h) : b < h.next := by
  obtain ⟨m, c, h1, _⟩ := v
  exact w.lt h1
theorem Vals.load {b o : Nat} {l : List AV} {i : Nat} {x : AV} {t : TypeId} {P : Program} (v : Vals h b o l) (ha : isAg P t = some false) (hi : l[i]? = some x) : loadA P h t b (o + i * 1) = some x := by
  obtain ⟨m, c, h1, h2, h3⟩ := v
  have hl : i < l.length := (List.getElem?_eq_some_iff.1 hi).1
  rw [Nat.mul_one]
  exact loadA_cell ha h1 (by omega) (h3 i x hi)
def Bts (h : H) (N : Nat) (v : AV) (l : List Nat) : Prop := ∃ b cp ex, v = .slice b 0 l.length cp 1 ex ∧ l.length ≤ cp ∧ N ≤ b ∧ Vals h b 0 (u8L l)
theorem Bts.lb {l : List Nat} {b : Nat} (hv : Vals h b 0 (u8L l)) : LB h b 0 l := fun i x hx => by
  have := hv.load (i := i) (x := .int .u8 (.ofNat x)) (t := 5) (P := Tryz.prog) (by kernel_rfl) (by unfold u8L; rw [List.getElem?_map, hx]; rfl)
  rwa [Nat.mul_one] at this
theorem gets_all {c : Tr AV} : ∀ {l : List AV} {o : Nat}, (∀ i, i < l.length → c.at (o + i) = l[i]?) → gets c o l.length = some l
  | [], o, _ => rfl
  | v :: l, o, h => by
    have h0 : c.at o = some v := h 0 (by simp)
    have ih := gets_all (c := c) (l := l) (o := o + 1) fun i hi => by
      have := h (i + 1) (by simpa using hi)
      rw [show o + (i + 1) = o + 1 + i by omega] at this
      simpa using this
    simp only [List.length_cons, gets, h0, ih]
theorem srcA_row {P : Program} {t e : TypeId} {s : AV} {l : List AV} (hu : P.underlying t = some (.slice e)) (r : Row h s l) (h1 : l.all AV.one = true) : srcA P h t 1 s = some (l.length, l) := by
  rcases r with ⟨rfl, rfl⟩ | ⟨b, c, rfl, h2, h3⟩
  · simp only [srcA, hu]; rfl
  · have e1 : Nat.ble l.length l.length = true := Nat.ble_eq_true_of_le (Nat.le_refl _)
    have e2 : gets c 0 l.length = some l := gets_all fun i hi => by rw [Nat.zero_add]; exact h3 i hi
    simp only [srcA, hu, e1, Nat.mul_one, h2, Nat.zero_add, e2, h1, cond_true, Nat.beq_refl, Bool.and_self]
    cases hn : Nat.beq l.length 0 with
    | false => rfl
    | true =>
      have := Nat.eq_of_beq_eq_true hn
      obtain rfl := List.eq_nil_of_length_eq_zero this
      rfl
theorem u8L_one (l : List Nat) : (u8L l).all AV.one = true := by
  rw [List.all_eq_true]
  intro v hv
  obtain ⟨x, _, rfl⟩ := List.mem_map.1 hv
  rfl
theorem wbytes_spec {d : Nat} (hS : SOk S) {h0 : H} {bw : Nat} {l : List Nat} (hF : Fr (fun _ => False) h0 h) (hW : Wr h h0.next bw l) (hl : l.length < 1000000) :
    CS Tryz.prog X S L (d + 2) 113 [.ptr bw 0] h (fun v h' => Bts h' h0.next v l ∧ Fr (fun _ => False) h0 h') := by
  obtain ⟨cw, s, g1, g2, g3, g4, g5⟩ := hW.w
  obtain ⟨i5, hi, hi1, hi2⟩ := info5
  refine CS.of (rs := [.tmp 2]) (hS.none _ (by decide) (by decide)) Tryz.func113 rfl rfl ?_
  refine Gives.seq ?_
  refine Gives.region [.p 0] (by kernel_rfl) ?_
  refine RP.p rfl (op_assign rfl ?_)
  refine RP.nil ?_
  refine Gives.seq ?_
  refine Gives.seq ?_
  refine Gives.region [.p 0, .e 1 [], .p 2] (by kernel_rfl) ?_
  refine RP.p rfl (op_move (qT (by repeat (first | with_reducible (first | exact qS | assumption) | refine qN rfl ?_ | exact qO rfl))) ?_)
  refine RP.e rfl (op_calls (evs_cons (qT (by repeat (first | with_reducible (first | exact qS | assumption) | refine qN rfl ?_ | exact qO rfl))) evs_nil) (by kernel_rfl) (wok_spec hS hW) ?_)
  rintro v h' ⟨rfl, rfl⟩
  refine RP.p rfl (op_notT (qT (by repeat (first | with_reducible (first | exact qS | assumption) | refine qN rfl ?_ | exact qO rfl))) ?_)
  refine RP.nil ?_
  refine Gives.else_ (qT (by repeat (first | with_reducible (first | exact qS | assumption) | refine qN rfl ?_ | exact qO rfl))) ?_
  refine Gives.skip ?_
  refine Gives.seq ?_
  refine Gives.region [.p 0, .p 1, .p 2, .p 3, .r 4, .e 5 [], .p 6] (by kernel_rfl) ?_
  refine RP.p rfl (op_buildSlice (e := 5) (s := 1) (z := .int .u8 (.ofNat 0)) (cs := []) Tryz.underlying26 (by kernel_rfl) (by kernel_rfl) evParts_nil rfl rfl ?_)
  have fr1 : Fr (fun _ => False) h (h.new (.cells 0 (ofL []))) := (Fr.refl hF.wf).new _
  have g1' := fr1.get hF.wf g1 id
  have g4' := g4.fr hF.wf fr1 fun _ _ => id
  have hsrc := srcA_row (P := Tryz.prog) (t := 26) Tryz.underlying26 g4' (u8L_one l)
  refine RP.p rfl (op_move (qT (by repeat (first | with_reducible (first | exact qS | assumption) | refine qN rfl ?_ | exact qO rfl))) ?_)
  refine RP.p rfl (op_nilCheck (qT (by repeat (first | with_reducible (first | exact qS | assumption) | refine qN rfl ?_ | exact qO rfl))) ?_)
  refine RP.p rfl (op_fieldAddr (off := 1) (qT (by repeat (first | with_reducible (first | exact qS | assumption) | refine qN rfl ?_ | exact qO rfl))) (by kernel_rfl) ?_)
  refine RP.r rfl (op_load (qT (by repeat (first | with_reducible (first | exact qS | assumption) | refine qN rfl ?_ | exact qO rfl))) (loadA_cell (by kernel_rfl) g1' (by omega) g3) ?_)
  have e1 : (Nat.beq 1 1 && Nat.ble 0 0) = true := rfl
  by_cases hz : l = []
  · subst hz
    have ha : appendTo (h.new (.cells 0 (ofL []))) 1 i5.bytes (.slice h.next 0 0 0 1 true) 0 [] = some (.slice h.next 0 0 0 1 true, h.new (.cells 0 (ofL []))) := by
      unfold appendTo; rw [forceL_eq]; rfl
    refine RP.e rfl (op_append (qT (by repeat (first | with_reducible (first | exact qS | assumption) | refine qN rfl ?_ | exact qO rfl))) (qT (by repeat (first | with_reducible (first | exact qS | assumption) | refine qN rfl ?_ | exact qO rfl))) (appendA_of (z := .int .u8 (.ofNat 0)) Tryz.underlying26 hi (by kernel_rfl) rfl hi1 hsrc ha) ?_)
    refine RP.p rfl (op_assign (qT (by repeat (first | with_reducible (first | exact qS | assumption) | refine qN rfl ?_ | exact qO rfl))) ?_)
    refine RP.nil ?_
    exact Gives.ret0 (RS.one (v := .slice h.next 0 0 0 1 true) (by repeat (first | with_reducible (first | exact qS | assumption) | refine qN rfl ?_ | exact qO rfl)) ⟨⟨h.next, 0, true, rfl, Nat.le_refl _, hF.next, ⟨0, _, obj_new_same (by simp), Nat.le_refl _, fun i v hv => by simp [u8L] at hv⟩⟩, hF.trans fr1⟩)
  · have hn : 0 < l.length := List.length_pos_iff.2 hz
    have ha : appendTo (h.new (.cells 0 (ofL []))) 1 i5.bytes (.slice h.next 0 0 0 1 true) (u8L l).length (u8L l) = some (.slice (h.next + 1) 0 (u8L l).length (u8L l).length 1 false, (h.new (.cells 0 (ofL []))).new (.cells (u8L l).length (ofL (u8L l)))) := by
      have e2 : Nat.ble (0 + (u8L l).length) 0 = false := by
        cases hh : Nat.ble (0 + (u8L l).length) 0 with
        | false => rfl
        | true => have := Nat.le_of_ble_eq_true hh; rw [u8L_length] at this; omega
      have e3 : (Nat.ble (2 * (0 + (u8L l).length) * i5.bytes) 281474976710656 && Nat.ble (0 + (u8L l).length) 4611686018427387904) = true := by
        rw [hi2, u8L_length]; simp; omega
      unfold appendTo
      rw [forceL_eq]
      simp only [e2, e3, cond_true, cond_false, Nat.beq_refl, Bool.and_self, H.rowK_ofL]
      rfl
    refine RP.e rfl (op_append (qT (by repeat (first | with_reducible (first | exact qS | assumption) | refine qN rfl ?_ | exact qO rfl))) (qT (by repeat (first | with_reducible (first | exact qS | assumption) | refine qN rfl ?_ | exact qO rfl))) (appendA_of (z := .int .u8 (.ofNat 0)) Tryz.underlying26 hi (by kernel_rfl) rfl hi1 hsrc ha) ?_)
    refine RP.p rfl (op_assign (qT (by repeat (first | with_reducible (first | exact qS | assumption) | refine qN rfl ?_ | exact qO rfl))) ?_)
    refine RP.nil ?_
    refine Gives.ret0 (RS.one (by repeat (first | with_reducible (first | exact qS | assumption) | refine qN rfl ?_ | exact qO rfl)) ⟨⟨h.next + 1, l.length, false, by rw [u8L_length], Nat.le_refl _, by have := hF.next; omega, ⟨_, _, obj_new_same (h := h.new _) (by simp), by simp, fun i v hv => ?_⟩⟩, (hF.trans fr1).new _⟩)
    rw [Nat.zero_add]
    exact qO hv
def u32L (l : List Nat) : List AV := l.map fun x => .int .u32 (.ofNat x)
theorem u32L_length (l : List Nat) : (u32L l).length = l.length := List.length_map ..
theorem octs_take_succ {ws : List Nat} {i : Nat} (hi : i < ws.length) : octs (ws.take (i + 1)) = octs (ws.take i) ++ oct4 ws[i] := by
  rw [List.take_succ_eq_append_getElem hi, octs_append]
  simp [octs]
theorem octets_spec {d : Nat} (hS : SOk S) (hL : 100 ≤ L) (hw : WF h) {b o cp : Nat} {ex : Bool} {ws : List Nat} (hV : Vals h b o (u32L ws)) (hc : ws.length ≤ cp) (hlt : ∀ x ∈ ws, x < 4294967296) (hn : ws.length < 200000) (hL2 : ws.length < L) :
    CS Tryz.prog X S L (d + 3) 75 [.slice b o ws.length cp 1 ex] h (fun v h' => Bts h' h.next v (octs ws) ∧ Fr (fun _ => False) h h') := by
  refine CS.of (rs := [.tmp 2]) (hS.none _ (by decide) (by decide)) Tryz.func75 rfl rfl ?_
  refine Gives.seq ?_
  refine Gives.region [.p 0] (by kernel_rfl) ?_
  refine RP.p rfl (op_assign rfl ?_)
  refine RP.nil ?_
  refine Gives.seq ?_
  refine Gives.region [.e 0 [], .p 1] (by kernel_rfl) ?_
  refine RP.e rfl (op_calls evs_nil (by kernel_rfl) (wnew_spec hS hw) ?_)
  rintro v h1 ⟨bw, rfl, hW1, hF1⟩
  refine RP.p rfl (op_assign (qT (by repeat (first | with_reducible (first | exact qS | assumption) | refine qN rfl ?_ | exact qO rfl))) ?_)
  refine RP.nil ?_
  refine Gives.seq ?_
  refine Gives.seq ?_
  refine Gives.region [.p 0, .p 1, .p 2] (by kernel_rfl) ?_
  refine RP.p rfl (op_move (qT (by repeat (first | with_reducible (first | exact qS | assumption) | refine qN rfl ?_ | exact qO rfl))) ?_)
  refine RP.p rfl (op_len_slice (qT (by repeat (first | with_reducible (first | exact qS | assumption) | refine qN rfl ?_ | exact qO rfl))) Tryz.underlying96 ?_)
  refine RP.p rfl (op_move (show ev _ _ = some (.int .i64 (.ofNat 0)) from rfl) ?_)
  refine RP.nil ?_
  refine Gives.block ?_
  refine Gives.loop (I := fun k F h' => ∃ i, k + i = ws.length ∧ F.at 3 = some (.ptr bw 0) ∧ F.at 7 = some (.slice b o ws.length cp 1 ex) ∧ F.at 8 = some (.int .i64 (.ofNat ws.length)) ∧ F.at 9 = some (.int .i64 (.ofNat i)) ∧ Wr h' h.next bw (octs (ws.take i)) ∧ Fr (fun _ => False) h h')
    (fun k F h' hI => ?_) (k := ws.length) (by omega) ⟨0, rfl, (by repeat (first | with_reducible (first | exact qS | assumption) | refine qN rfl ?_ | exact qO rfl)), (by repeat (first | with_reducible (first | exact qS | assumption) | refine qN rfl ?_ | exact qO rfl)), (by repeat (first | with_reducible (first | exact qS | assumption) | refine qN rfl ?_ | exact qO rfl)), (by repeat (first | with_reducible (first | exact qS | assumption) | refine qN rfl ?_ | exact qO rfl)), hW1, hF1⟩
  clear hW1 hF1
  obtain ⟨i, hk, f3, f7, f8, f9, hW, hF⟩ := hI
  refine Gives.seq ?_
  refine Gives.region [.p 0] (by kernel_rfl) ?_
  refine RP.p rfl (op_bin (qT (by repeat (first | with_reducible (first | exact qS | assumption) | refine qN rfl ?_ | exact qO rfl))) (qT (by repeat (first | with_reducible (first | exact qS | assumption) | refine qN rfl ?_ | exact qO rfl))) bin_lssN ?_)
  refine RP.nil ?_
  refine Gives.seq ?_
  refine Gives.cond (qT (by repeat (first | with_reducible (first | exact qS | assumption) | refine qN rfl ?_ | exact qO rfl))) (fun hb => ?_) (fun hb => ?_)
  · have hi : i < ws.length := of_decide_eq_true hb
    obtain ⟨k, rfl⟩ : ∃ m, k = m + 1 := ⟨k - 1, by omega⟩
    have hx := hlt ws[i] (List.getElem_mem hi)
    have hV' := hV.fr hw hF id
    have hlen : (octs (ws.take i)).length < 900000 := by rw [octs_length, List.length_take]; omega
    refine Gives.skip ?_
    refine Gives.seq ?_
    refine Gives.block ?_
    refine Gives.seq ?_
    refine Gives.region [.p 0, .r 1, .p 2] (by kernel_rfl) ?_
    refine RP.p rfl (op_indexAddr (qT (by repeat (first | with_reducible (first | exact qS | assumption) | refine qN rfl ?_ | exact qO rfl))) (qT (by repeat (first | with_reducible (first | exact qS | assumption) | refine qN rfl ?_ | exact qO rfl))) Tryz.underlying96 (by kernel_rfl) hi hc ?_)
    refine RP.r rfl (op_load (qT (by repeat (first | with_reducible (first | exact qS | assumption) | refine qN rfl ?_ | exact qO rfl))) (hV'.load (x := .int .u32 (.ofNat ws[i])) (by kernel_rfl) (by unfold u32L; rw [List.getElem?_map, List.getElem?_eq_getElem hi]; rfl)) ?_)
    refine RP.p rfl (op_assign (qT (by repeat (first | with_reducible (first | exact qS | assumption) | refine qN rfl ?_ | exact qO rfl))) ?_)
    refine RP.nil ?_
    refine Gives.region [.p 0, .p 1, .p 2, .e 3 []] (by kernel_rfl) ?_
    refine RP.p rfl (op_move (qT (by repeat (first | with_reducible (first | exact qS | assumption) | refine qN rfl ?_ | exact qO rfl))) ?_)
    refine RP.p rfl (op_move (qT (by repeat (first | with_reducible (first | exact qS | assumption) | refine qN rfl ?_ | exact qO rfl))) ?_)
    refine RP.p rfl (op_conv (qT (by repeat (first | with_reducible (first | exact qS | assumption) | refine qN rfl ?_ | exact qO rfl))) Tryz.underlying35 Tryz.underlying70 (by have e1 : topK .i64 = 9223372036854775808 := rfl; have e2 : topK .u32 = 4294967296 := rfl; have e3 : topK .u64 = 18446744073709551616 := rfl; have e4 : topK .u8 = 256 := rfl; have e5 : topK .u16 = 65536 := rfl; omega) ?_)
    refine RP.e rfl (op_calls (evs_cons (qT (by repeat (first | with_reducible (first | exact qS | assumption) | refine qN rfl ?_ | exact qO rfl))) (evs_cons (qT (by repeat (first | with_reducible (first | exact qS | assumption) | refine qN rfl ?_ | exact qO rfl))) (evs_cons (show ev _ _ = some (.int .i64 (.ofNat 4)) from rfl) evs_nil))) (by kernel_rfl) (wuint_spec hS hL hF hW hx hlen) ?_)
    rintro v h2 ⟨hW2, hF2⟩
    refine RP.nil ?_
    refine Gives.region [.p 0, .p 1] (by kernel_rfl) ?_
    refine RP.p rfl (op_bin (qT (by repeat (first | with_reducible (first | exact qS | assumption) | refine qN rfl ?_ | exact qO rfl))) (show ev _ _ = some (.int .i64 (.ofNat 1)) from rfl) (bin_add (by have e1 : topK .i64 = 9223372036854775808 := rfl; have e2 : topK .u32 = 4294967296 := rfl; have e3 : topK .u64 = 18446744073709551616 := rfl; have e4 : topK .u8 = 256 := rfl; have e5 : topK .u16 = 65536 := rfl; omega)) ?_)
    refine RP.p rfl (op_move (qT (by repeat (first | with_reducible (first | exact qS | assumption) | refine qN rfl ?_ | exact qO rfl))) ?_)
    refine RP.nil ?_
    exact ⟨k, by omega, i + 1, by omega, (by repeat (first | with_reducible (first | exact qS | assumption) | refine qN rfl ?_ | exact qO rfl)), (by repeat (first | with_reducible (first | exact qS | assumption) | refine qN rfl ?_ | exact qO rfl)), (by repeat (first | with_reducible (first | exact qS | assumption) | refine qN rfl ?_ | exact qO rfl)), (by repeat (first | with_reducible (first | exact qS | assumption) | refine qN rfl ?_ | exact qO rfl)), by rw [octs_take_succ hi]; exact hW2, hF2⟩
  · have hi : ¬ i < ws.length := of_decide_eq_false hb
    obtain rfl : i = ws.length := by omega
    rw [List.take_length] at hW
    refine Gives.exit_same ?_
    refine Gives.seq ?_
    refine Gives.region [.p 0, .e 1 [], .p 2] (by kernel_rfl) ?_
    refine RP.p rfl (op_move (qT (by repeat (first | with_reducible (first | exact qS | assumption) | refine qN rfl ?_ | exact qO rfl))) ?_)
    refine RP.e rfl (op_calls (evs_cons (qT (by repeat (first | with_reducible (first | exact qS | assumption) | refine qN rfl ?_ | exact qO rfl))) evs_nil) (by kernel_rfl) (wbytes_spec hS hF hW (by rw [octs_length]; omega)) ?_)
    rintro v h2 ⟨hB, hF2⟩
    refine RP.p rfl (op_assign (qT (by repeat (first | with_reducible (first | exact qS | assumption) | refine qN rfl ?_ | exact qO rfl))) ?_)
    refine RP.nil ?_
    exact Gives.ret0 (RS.one (by repeat (first | with_reducible (first | exact qS | assumption) | refine qN rfl ?_ | exact qO rfl)) ⟨hB, hF2⟩)
theorem sum32_spec {d : Nat} (hS : SOk S) (b o cp : Nat) (ex : Bool) (l : List Nat) (hl : ∀ x ∈ l, x < 256) (hcp : l.length ≤ cp) (hlen : l.length < 9223372036854775807) (hL : l.length + 10 < L) (hlb : LB h b o l) :
    CS Tryz.prog X S L (d + 3) 74 [.slice b o l.length cp 1 ex] h (fun v h' => v = .int .u32 (.ofNat (crc32 0 l)) ∧ h = h') := by
  refine CS.of (rs := [.tmp 2]) (hS.none _ (by decide) (by decide)) Tryz.func74 rfl rfl ?_
  refine Gives.seq ?_
  refine Gives.region [.p 0] (by kernel_rfl) ?_
  refine RP.p rfl (op_assign (show ev _ _ = some (.int .u32 (.ofNat 0)) from rfl) ?_)
  refine RP.nil ?_
  refine Gives.seq ?_
  refine Gives.region [.p 0, .e 1 [], .p 2] (by kernel_rfl) ?_
  refine RP.p rfl (op_move (qT (by repeat (first | with_reducible (first | exact qS | assumption) | refine qN rfl ?_ | exact qO rfl))) ?_)
  refine RP.e rfl (op_calls (evs_cons (show ev _ _ = some (.int .u32 (.ofNat 0)) from rfl) (evs_cons (qT (by repeat (first | with_reducible (first | exact qS | assumption) | refine qN rfl ?_ | exact qO rfl))) evs_nil)) (by kernel_rfl) (crc32_spec hS 0 (by decide) b o cp ex l hl hcp hlen hL hlb) ?_)
  rintro v h' ⟨rfl, rfl⟩
  refine RP.p rfl (op_assign (qT (by repeat (first | with_reducible (first | exact qS | assumption) | refine qN rfl ?_ | exact qO rfl))) ?_)
  refine RP.nil ?_
  exact Gives.ret0 (RS.one (by repeat (first | with_reducible (first | exact qS | assumption) | refine qN rfl ?_ | exact qO rfl)) ⟨rfl, rfl⟩)
end Go.Abs

/- The words of a copy, as they are made out of its image. No condition. -/
namespace Go.Abs
open Go.Proofs
variable {X : Ext0} {S : Sums} {L : Nat} {h : H}
def Img (h : H) (v : AV) (l : List Nat) : Prop := (v = .snil ∧ l = []) ∨ ∃ b o cp ex, v = .slice b o l.length cp 1 ex ∧ l.length ≤ cp ∧ LB h b o l
theorem LB.fr {h h' : H} {b o : Nat} {l : List Nat} (hl : LB h b o l) (w : WF h) {B : Nat → Prop} (f : Fr B h h') (hn : ¬ B b) : LB h' b o l := fun i x hx => by
  have h1 := hl i x hx
  have h2 : b < h.next := by
    rcases Nat.lt_or_ge b h.next with h3 | h3
    · exact h3
    · unfold loadA at h1; rw [w b h3] at h1; cases h1
  have h3 := f.obj b h2 hn
  unfold loadA at h1 ⊢
  rw [h3]; exact h1
theorem Img.fr {h h' : H} {v : AV} {l : List Nat} (r : Img h v l) (w : WF h) (f : Fr (fun _ => False) h h') : Img h' v l := by
  rcases r with r | ⟨b, o, cp, ex, rfl, h1, h2⟩
  · exact .inl r
  · exact .inr ⟨b, o, cp, ex, rfl, h1, h2.fr w f id⟩
theorem Bts.img {N : Nat} {v : AV} {l : List Nat} (b : Bts h N v l) : Img h v l := by
  obtain ⟨b, cp, ex, rfl, h1, _, h2⟩ := b
  exact .inr ⟨b, 0, cp, ex, rfl, h1, Bts.lb h2⟩
section
variable {P : Program} {call : CallA} {n : Nat} {F : Fm} {K : Fm → H → Prop} {ops : Array Oper}
variable {ty : TypeId} {pos : String} {af : Array Edge} {chk : List Nat} {d : Nat} {v : AV} {t e : TypeId} {x y : Operand} {k : IntKind}
theorem op_len_img {l : List Nat} (hx : ev F x = some v) (hi : Img h v l) (hu : P.underlying t = some (.slice e)) (hk : K (F.put d (.int .i64 (.ofNat l.length))) h) :
    OpP P ops ⟨some d, .call ⟨.builtin .len, #[x], #[t]⟩, ty, pos, af, none⟩ F h K := by
  rcases hi with ⟨rfl, rfl⟩ | ⟨b, o, cp, ex, rfl, _⟩
  · exact op_len_nil hx hu hk
  · exact op_len_slice hx hu hk
end
theorem Vals.put {b a : Nat} {l : List AV} {v : AV} {m : Nat} {c : Tr AV} (hv : Vals h b 0 l) (hb : h.obj b = some (.cells m c)) : Vals (h.set b (.cells m (c.put a v))) b 0 (l.set a v) := by
  obtain ⟨m', c', h1, h2, h3⟩ := hv
  rw [hb] at h1; cases h1
  refine ⟨m, _, obj_set_same (by simp), by rw [List.length_set]; exact h2, fun i u hi => ?_⟩
  rw [Nat.zero_add, Tr.at_put]
  rw [List.getElem?_set] at hi
  by_cases e : i = a
  · subst e
    rw [if_pos rfl]
    rw [if_pos rfl] at hi
    split at hi
    · exact hi
    · cases hi
  · rw [if_neg e]
    rw [if_neg (Ne.symm e)] at hi
    have := h3 i u hi
    rwa [Nat.zero_add] at this
def rowW (g : Nat) (b : List Nat) (i : Nat) : List Nat := g :: b.length :: ((List.range (wordsK b)).map (part b i) ++ [0])
theorem rowW_length (g : Nat) (b : List Nat) (i : Nat) : (rowW g b i).length = wordsK b + 3 := by simp [rowW]
theorem rowW_get {g : Nat} {b : List Nat} {i j : Nat} (hj : j < wordsK b) : (rowW g b i)[2 + j]? = some (part b i j) := by
  unfold rowW
  rw [show 2 + j = j + 1 + 1 by omega, List.getElem?_cons_succ, List.getElem?_cons_succ, List.getElem?_append_left (by simpa using hj)]
  simp [hj]
theorem rowW_succ {g : Nat} {b : List Nat} (hb : ∀ x ∈ b, x < 256) {i : Nat} (hi : i < b.length) : (rowW g b i).set (2 + i / 4) (part b i (i / 4) ||| b[i] * 2 ^ (24 - 8 * (i % 4))) = rowW g b (i + 1) := by
  have hk : i / 4 < wordsK b := by unfold wordsK; omega
  apply List.ext_getElem?
  intro j
  rw [List.getElem?_set]
  by_cases e : 2 + i / 4 = j
  · subst e
    rw [if_pos rfl, if_pos (by rw [rowW_length]; omega), rowW_get hk, part_succ hb i hi, if_pos rfl]
  · rw [if_neg e]
    rcases Nat.lt_or_ge j 2 with hj | hj
    · obtain rfl | rfl : j = 0 ∨ j = 1 := by omega
      · simp [rowW]
      · simp [rowW]
    · obtain ⟨m, rfl⟩ : ∃ m, j = 2 + m := ⟨j - 2, by omega⟩
      by_cases hm : m < wordsK b
      · rw [rowW_get hm, rowW_get hm, part_succ hb i hi, if_neg (by omega)]
      · unfold rowW
        rw [show 2 + m = m + 1 + 1 by omega, List.getElem?_cons_succ, List.getElem?_cons_succ, List.getElem?_cons_succ, List.getElem?_cons_succ, List.getElem?_append_right (by simp; omega), List.getElem?_append_right (by simp; omega)]
        simp
theorem part_lt {b : List Nat} (hb : ∀ x ∈ b, x < 256) (i j : Nat) : part b i j < 2 ^ 32 := four_lt (fun x hx => hb x (List.mem_of_mem_take hx)) j
theorem rowW_end {g : Nat} {b : List Nat} (hb : ∀ x ∈ b, x < 256) : (rowW g b b.length).take (wordsK b + 2) = g :: b.length :: body b := by
  have e : (List.range (wordsK b)).map (part b b.length) = body b := by
    unfold body
    apply List.map_congr_left
    intro j _
    rw [packW_four hb, part, List.take_length]
  unfold rowW
  rw [e]
  simp only [List.take_succ_cons]
  rw [List.take_append_of_le_length (by rw [body_length]; omega), List.take_of_length_le (by rw [body_length]; omega)]
theorem rowW_fin {g c : Nat} {b : List Nat} (hb : ∀ x ∈ b, x < 256) : (rowW g b b.length).set (wordsK b + 2) c = (g :: b.length :: body b) ++ [c] := by
  have e : (List.range (wordsK b)).map (part b b.length) = body b := by
    unfold body
    apply List.map_congr_left
    intro j _
    rw [packW_four hb, part, List.take_length]
  unfold rowW
  rw [e, show wordsK b + 2 = wordsK b + 1 + 1 by omega, List.set_cons_succ, List.set_cons_succ, List.set_append_right _ _ (by rw [body_length]; omega), body_length, Nat.sub_self]
  rfl
theorem bnds_hi {len cap n : Nat} {k : IntKind} (h1 : n ≤ cap) : bnds len cap none (some (.int k (.ofNat n))) none = some (0, n, cap) := by
  have e : Nat.ble n cap = true := Nat.ble_eq_true_of_le h1
  simp only [bnds, intA, e, cond_true]
theorem evo_some {F : Fm} {x : Operand} {v : AV} (h1 : ev F x = some v) : evo F (some x) = some (some v) := by simp only [evo, h1]
theorem rowW_start (g : Nat) (b : List Nat) : ((List.replicate (wordsK b + 3) 0).set 0 g).set 1 b.length = rowW g b 0 := by
  have e : (List.range (wordsK b)).map (part b 0) = List.replicate (wordsK b) 0 := by
    apply List.ext_getElem?
    intro j
    by_cases hj : j < wordsK b
    · simp [hj, part, four]
    · simp [hj]
  unfold rowW
  rw [e, show wordsK b + 3 = wordsK b + 1 + 1 + 1 by omega, List.replicate_succ, List.replicate_succ, List.set_cons_zero, List.set_cons_succ, List.set_cons_zero, ← List.replicate_succ', List.replicate_succ]
theorem u32L_set (l : List Nat) (a x : Nat) : (u32L l).set a (.int .u32 (.ofNat x)) = u32L (l.set a x) := by
  unfold u32L; rw [List.map_set]
theorem u32L_get {l : List Nat} {i x : Nat} (h : l[i]? = some x) : (u32L l)[i]? = some (.int .u32 (.ofNat x)) := by
  unfold u32L; rw [List.getElem?_map, h]; rfl
theorem Vals.take {b o k : Nat} {l : List AV} (v : Vals h b o l) : Vals h b o (l.take k) := by
  obtain ⟨m, c, h1, h2, h3⟩ := v
  refine ⟨m, c, h1, by rw [List.length_take]; omega, fun i u hi => ?_⟩
  rw [List.getElem?_take] at hi
  split at hi
  · exact h3 i u hi
  · cases hi
theorem words_spec {d : Nat} (hS : SOk S) (hL : 1000000 ≤ L) (hw : WF h) {g : Nat} {v1 : AV} {b : List Nat} (hI : Img h v1 b) (hb : ∀ x ∈ b, x < 256) (hg : g < 4294967296) (hn : b.length < 500000) :
    CS Tryz.prog X S L (d + 4) 35 [.int .i64 (.ofNat g), v1] h (fun v h' => ∃ bb, v = .slice bb 0 (wordsK b + 3) (wordsK b + 3) 1 true ∧ h.next ≤ bb ∧ Vals h' bb 0 (u32L (wordsS g b)) ∧ Fr (fun _ => False) h h') := by
  have hK : wordsK b = (b.length + 3) / 4 := rfl
  have hKl : wordsK b ≤ 200000 - 5 := by omega
  obtain ⟨i35, hi, hi1, hi2⟩ := info35
  refine CS.of (rs := [.tmp 4]) (hS.none _ (by decide) (by decide)) Tryz.func35 rfl rfl ?_
  refine Gives.seq ?_
  refine Gives.region [.p 0] (by kernel_rfl) ?_
  refine RP.p rfl (op_assign rfl ?_)
  refine RP.nil ?_
  refine Gives.seq ?_
  refine Gives.region [.p 0, .p 1, .p 2, .p 3, .p 4] (by kernel_rfl) ?_
  refine RP.p rfl (op_move (qT (by repeat (first | with_reducible (first | exact qS | assumption) | refine qN rfl ?_ | exact qO rfl))) ?_)
  refine RP.p rfl (op_len_img (qT (by repeat (first | with_reducible (first | exact qS | assumption) | refine qN rfl ?_ | exact qO rfl))) hI Tryz.underlying26 ?_)
  refine RP.p rfl (op_bin (qT (by repeat (first | with_reducible (first | exact qS | assumption) | refine qN rfl ?_ | exact qO rfl))) (show ev _ _ = some (.int .i64 (.ofNat 3)) from rfl) (bin_add (by have e1 : topK .i64 = 9223372036854775808 := rfl; have e2 : topK .u32 = 4294967296 := rfl; have e3 : topK .u64 = 18446744073709551616 := rfl; have e4 : topK .u8 = 256 := rfl; have e5 : topK .u16 = 65536 := rfl; omega)) ?_)
  refine RP.p rfl (op_bin (qT (by repeat (first | with_reducible (first | exact qS | assumption) | refine qN rfl ?_ | exact qO rfl))) (show ev _ _ = some (.int .i64 (.ofNat 4)) from rfl) (bin_quo (by omega) (by have e1 : topK .i64 = 9223372036854775808 := rfl; have e2 : topK .u32 = 4294967296 := rfl; have e3 : topK .u64 = 18446744073709551616 := rfl; have e4 : topK .u8 = 256 := rfl; have e5 : topK .u16 = 65536 := rfl; omega)) ?_)
  refine RP.p rfl (op_assign (qT (by repeat (first | with_reducible (first | exact qS | assumption) | refine qN rfl ?_ | exact qO rfl))) ?_)
  refine RP.nil ?_
  rw [← hK]
  refine Gives.seq ?_
  refine Gives.region [.p 0, .p 1, .p 2, .p 3] (by kernel_rfl) ?_
  refine RP.p rfl (op_move (qT (by repeat (first | with_reducible (first | exact qS | assumption) | refine qN rfl ?_ | exact qO rfl))) ?_)
  refine RP.p rfl (op_bin (qT (by repeat (first | with_reducible (first | exact qS | assumption) | refine qN rfl ?_ | exact qO rfl))) (show ev _ _ = some (.int .i64 (.ofNat 3)) from rfl) (bin_add (by have e1 : topK .i64 = 9223372036854775808 := rfl; have e2 : topK .u32 = 4294967296 := rfl; have e3 : topK .u64 = 18446744073709551616 := rfl; have e4 : topK .u8 = 256 := rfl; have e5 : topK .u16 = 65536 := rfl; omega)) ?_)
  refine RP.p rfl (op_makeSlice (e := 35) (z := .int .u32 (.ofNat 0)) Tryz.underlying96 (qT (by repeat (first | with_reducible (first | exact qS | assumption) | refine qN rfl ?_ | exact qO rfl))) (qT (by repeat (first | with_reducible (first | exact qS | assumption) | refine qN rfl ?_ | exact qO rfl))) hi (by kernel_rfl) hi1 (by rw [hi2]; omega) rfl (by omega) ?_)
  refine RP.p rfl (op_assign (qT (by repeat (first | with_reducible (first | exact qS | assumption) | refine qN rfl ?_ | exact qO rfl))) ?_)
  refine RP.nil ?_
  -- the row's state
  have hrep : List.replicate (wordsK b + 3) (AV.int .u32 (.ofNat 0)) = u32L (List.replicate (wordsK b + 3) 0) := by unfold u32L; rw [List.map_replicate]
  have v0 : Vals (h.new (.cells (wordsK b + 3) (ofL (List.replicate (wordsK b + 3) (AV.int .u32 (.ofNat 0)))))) h.next 0 (u32L (List.replicate (wordsK b + 3) 0)) := by
    rw [← hrep]
    exact ⟨_, _, obj_new_same (by simp), by simp, fun i u hu => by rw [Nat.zero_add]; exact qO hu⟩
  have f0 : Fr (fun _ => False) h (h.new (.cells (wordsK b + 3) (ofL (List.replicate (wordsK b + 3) (AV.int .u32 (.ofNat 0)))))) := (Fr.refl hw).new _
  generalize h.new (.cells (wordsK b + 3) (ofL (List.replicate (wordsK b + 3) (AV.int .u32 (.ofNat 0))))) = h1 at v0 f0 ⊢
  obtain ⟨m1, c1, o1, o2, o3⟩ := v0
  have v0 : Vals h1 h.next 0 (u32L (List.replicate (wordsK b + 3) 0)) := ⟨m1, c1, o1, o2, o3⟩
  rw [u32L_length, List.length_replicate] at o2
  have v1' := v0.put (a := 0) (v := .int .u32 (.ofNat g)) o1
  have lt1 := f0.wf.lt o1
  have f1 := f0.set (.cells m1 (c1.put 0 (.int .u32 (.ofNat g)))) lt1 fun hh => absurd hh (Nat.lt_irrefl _)
  have o1' : (h1.set h.next (.cells m1 (c1.put 0 (.int .u32 (.ofNat g))))).obj h.next = some (.cells m1 (c1.put 0 (.int .u32 (.ofNat g)))) := obj_set_same (by simp)
  have v2' := v1'.put (a := 1) (v := .int .u32 (.ofNat b.length)) o1'
  have f2 := f1.set (.cells m1 ((c1.put 0 (.int .u32 (.ofNat g))).put 1 (.int .u32 (.ofNat b.length)))) (f1.wf.lt o1') fun hh => absurd hh (Nat.lt_irrefl _)
  rw [u32L_set, u32L_set, rowW_start] at v2'
  have hI1 := hI.fr hw f0
  refine Gives.seq ?_
  refine Gives.region [.p 0, .p 1, .p 2, .p 3, .p 4, .p 5, .p 6, .p 7, .e 8 [], .p 9, .e 10 []] (by kernel_rfl) ?_
  refine RP.p rfl (op_move (qT (by repeat (first | with_reducible (first | exact qS | assumption) | refine qN rfl ?_ | exact qO rfl))) ?_)
  refine RP.p rfl (op_move (qT (by repeat (first | with_reducible (first | exact qS | assumption) | refine qN rfl ?_ | exact qO rfl))) ?_)
  refine RP.p rfl (op_move (qT (by repeat (first | with_reducible (first | exact qS | assumption) | refine qN rfl ?_ | exact qO rfl))) ?_)
  refine RP.p rfl (op_conv (qT (by repeat (first | with_reducible (first | exact qS | assumption) | refine qN rfl ?_ | exact qO rfl))) Tryz.underlying3 Tryz.underlying35 (by have e1 : topK .i64 = 9223372036854775808 := rfl; have e2 : topK .u32 = 4294967296 := rfl; have e3 : topK .u64 = 18446744073709551616 := rfl; have e4 : topK .u8 = 256 := rfl; have e5 : topK .u16 = 65536 := rfl; omega) ?_)
  refine RP.p rfl (op_move (qT (by repeat (first | with_reducible (first | exact qS | assumption) | refine qN rfl ?_ | exact qO rfl))) ?_)
  refine RP.p rfl (op_len_img (qT (by repeat (first | with_reducible (first | exact qS | assumption) | refine qN rfl ?_ | exact qO rfl))) hI1 Tryz.underlying26 ?_)
  refine RP.p rfl (op_conv (qT (by repeat (first | with_reducible (first | exact qS | assumption) | refine qN rfl ?_ | exact qO rfl))) Tryz.underlying3 Tryz.underlying35 (by have e1 : topK .i64 = 9223372036854775808 := rfl; have e2 : topK .u32 = 4294967296 := rfl; have e3 : topK .u64 = 18446744073709551616 := rfl; have e4 : topK .u8 = 256 := rfl; have e5 : topK .u16 = 65536 := rfl; omega) ?_)
  refine RP.p rfl (op_indexAddr (qT (by repeat (first | with_reducible (first | exact qS | assumption) | refine qN rfl ?_ | exact qO rfl))) (show ev _ _ = some (.int .i64 (.ofNat 0)) from rfl) Tryz.underlying96 (by kernel_rfl) (by omega) (Nat.le_refl _) ?_)
  refine RP.e rfl (op_store (qT (by repeat (first | with_reducible (first | exact qS | assumption) | refine qN rfl ?_ | exact qO rfl))) (qT (by repeat (first | with_reducible (first | exact qS | assumption) | refine qN rfl ?_ | exact qO rfl))) o1 (by kernel_rfl) rfl (by omega) ?_)
  refine RP.p rfl (op_indexAddr (qT (by repeat (first | with_reducible (first | exact qS | assumption) | refine qN rfl ?_ | exact qO rfl))) (show ev _ _ = some (.int .i64 (.ofNat 1)) from rfl) Tryz.underlying96 (by kernel_rfl) (by omega) (Nat.le_refl _) ?_)
  refine RP.e rfl (op_store (qT (by repeat (first | with_reducible (first | exact qS | assumption) | refine qN rfl ?_ | exact qO rfl))) (qT (by repeat (first | with_reducible (first | exact qS | assumption) | refine qN rfl ?_ | exact qO rfl))) o1' (by kernel_rfl) rfl (by omega) ?_)
  refine RP.nil ?_
  refine Gives.seq ?_
  refine Gives.seq ?_
  refine Gives.region [.p 0, .p 1, .p 2] (by kernel_rfl) ?_
  refine RP.p rfl (op_move (qT (by repeat (first | with_reducible (first | exact qS | assumption) | refine qN rfl ?_ | exact qO rfl))) ?_)
  refine RP.p rfl (op_len_img (qT (by repeat (first | with_reducible (first | exact qS | assumption) | refine qN rfl ?_ | exact qO rfl))) (hI.fr hw f2) Tryz.underlying26 ?_)
  refine RP.p rfl (op_move (show ev _ _ = some (.int .i64 (.ofNat 0)) from rfl) ?_)
  refine RP.nil ?_
  refine Gives.block ?_
  refine Gives.loop (I := fun k F h' => ∃ i, k + i = b.length ∧ F.at 5 = some (.int .i64 (.ofNat (wordsK b))) ∧ F.at 6 = some (.slice h.next 0 (wordsK b + 3) (wordsK b + 3) 1 true) ∧ F.at 25 = some v1 ∧ F.at 26 = some (.int .i64 (.ofNat b.length)) ∧ F.at 27 = some (.int .i64 (.ofNat i)) ∧ Vals h' h.next 0 (u32L (rowW g b i)) ∧ Fr (fun _ => False) h h')
    (fun k F h' hI' => ?_) (k := b.length) (by omega) ⟨0, rfl, (by repeat (first | with_reducible (first | exact qS | assumption) | refine qN rfl ?_ | exact qO rfl)), (by repeat (first | with_reducible (first | exact qS | assumption) | refine qN rfl ?_ | exact qO rfl)), (by repeat (first | with_reducible (first | exact qS | assumption) | refine qN rfl ?_ | exact qO rfl)), (by repeat (first | with_reducible (first | exact qS | assumption) | refine qN rfl ?_ | exact qO rfl)), (by repeat (first | with_reducible (first | exact qS | assumption) | refine qN rfl ?_ | exact qO rfl)), v2', f2⟩
  clear v0 f0 v1' lt1 f1 o1' v2' f2 hI1 o1 o2 o3
  obtain ⟨i, hk, e5, e6, e25, e26, e27, hV, hF⟩ := hI'
  have hI2 := hI.fr hw hF
  refine Gives.seq ?_
  refine Gives.region [.p 0] (by kernel_rfl) ?_
  refine RP.p rfl (op_bin (qT (by repeat (first | with_reducible (first | exact qS | assumption) | refine qN rfl ?_ | exact qO rfl))) (qT (by repeat (first | with_reducible (first | exact qS | assumption) | refine qN rfl ?_ | exact qO rfl))) bin_lssN ?_)
  refine RP.nil ?_
  refine Gives.seq ?_
  refine Gives.cond (qT (by repeat (first | with_reducible (first | exact qS | assumption) | refine qN rfl ?_ | exact qO rfl))) (fun hb' => ?_) (fun hb' => ?_)
  · have hi' : i < b.length := of_decide_eq_true hb'
    obtain ⟨k, rfl⟩ : ∃ m, k = m + 1 := ⟨k - 1, by omega⟩
    obtain ⟨m2, c2, o1, o2, o3⟩ := hV
    have hV : Vals h' h.next 0 (u32L (rowW g b i)) := ⟨m2, c2, o1, o2, o3⟩
    rw [u32L_length, rowW_length] at o2
    have hx := hb b[i] (List.getElem_mem hi')
    have hq : i / 4 < wordsK b := by omega
    have hpl := part_lt hb i (i / 4)
    have hp : 2 ^ (24 - 8 * (i % 4)) ≤ 2 ^ 24 := Nat.pow_le_pow_right (by decide) (by omega)
    have hsh : b[i] * 2 ^ (24 - 8 * (i % 4)) ≤ 255 * 2 ^ 24 := Nat.mul_le_mul (by omega) hp
    have hv' := hV.put (a := 2 + i / 4) (v := .int .u32 (.ofNat (part b i (i / 4) ||| b[i] * 2 ^ (24 - 8 * (i % 4))))) o1
    rw [u32L_set, rowW_succ hb hi'] at hv'
    have f' := hF.set (.cells m2 (c2.put (2 + i / 4) (.int .u32 (.ofNat (part b i (i / 4) ||| b[i] * 2 ^ (24 - 8 * (i % 4))))))) (hF.wf.lt o1) fun hh => absurd hh (Nat.lt_irrefl _)
    rcases hI2 with ⟨_, hnil⟩ | ⟨bi, oi, cpi, exi, rfl, hcp, hlb⟩
    · rw [hnil] at hi'; exact absurd hi' (Nat.not_lt_zero _)
    refine Gives.skip ?_
    refine Gives.seq ?_
    refine Gives.block ?_
    refine Gives.seq ?_
    refine Gives.region [.p 0, .p 1, .r 2, .p 3, .p 4] (by kernel_rfl) ?_
    refine RP.p rfl (op_move (qT (by repeat (first | with_reducible (first | exact qS | assumption) | refine qN rfl ?_ | exact qO rfl))) ?_)
    refine RP.p rfl (op_indexAddr (qT (by repeat (first | with_reducible (first | exact qS | assumption) | refine qN rfl ?_ | exact qO rfl))) (qT (by repeat (first | with_reducible (first | exact qS | assumption) | refine qN rfl ?_ | exact qO rfl))) Tryz.underlying26 (by kernel_rfl) hi' hcp ?_)
    refine RP.r rfl (op_load (v := .int .u8 (.ofNat b[i])) (qT (by repeat (first | with_reducible (first | exact qS | assumption) | refine qN rfl ?_ | exact qO rfl))) (by have := hlb i b[i] (List.getElem?_eq_getElem hi'); rwa [Nat.mul_one]) ?_)
    refine RP.p rfl (op_assign (qT (by repeat (first | with_reducible (first | exact qS | assumption) | refine qN rfl ?_ | exact qO rfl))) ?_)
    refine RP.p rfl (op_assign (qT (by repeat (first | with_reducible (first | exact qS | assumption) | refine qN rfl ?_ | exact qO rfl))) ?_)
    refine RP.nil ?_
    refine Gives.region [.p 0, .p 1, .p 2, .p 3, .p 4, .r 5, .p 6, .p 7, .p 8, .p 9, .p 10, .p 11, .p 12, .p 13, .p 14, .e 15 []] (by kernel_rfl) ?_
    refine RP.p rfl (op_move (qT (by repeat (first | with_reducible (first | exact qS | assumption) | refine qN rfl ?_ | exact qO rfl))) ?_)
    refine RP.p rfl (op_move (qT (by repeat (first | with_reducible (first | exact qS | assumption) | refine qN rfl ?_ | exact qO rfl))) ?_)
    refine RP.p rfl (op_bin (qT (by repeat (first | with_reducible (first | exact qS | assumption) | refine qN rfl ?_ | exact qO rfl))) (show ev _ _ = some (.int .i64 (.ofNat 4)) from rfl) (bin_quo (by omega) (by have e1 : topK .i64 = 9223372036854775808 := rfl; have e2 : topK .u32 = 4294967296 := rfl; have e3 : topK .u64 = 18446744073709551616 := rfl; have e4 : topK .u8 = 256 := rfl; have e5 : topK .u16 = 65536 := rfl; omega)) ?_)
    refine RP.p rfl (op_bin (show ev _ _ = some (.int .i64 (.ofNat 2)) from rfl) (qT (by repeat (first | with_reducible (first | exact qS | assumption) | refine qN rfl ?_ | exact qO rfl))) (bin_add (by have e1 : topK .i64 = 9223372036854775808 := rfl; have e2 : topK .u32 = 4294967296 := rfl; have e3 : topK .u64 = 18446744073709551616 := rfl; have e4 : topK .u8 = 256 := rfl; have e5 : topK .u16 = 65536 := rfl; omega)) ?_)
    refine RP.p rfl (op_indexAddr (qT (by repeat (first | with_reducible (first | exact qS | assumption) | refine qN rfl ?_ | exact qO rfl))) (qT (by repeat (first | with_reducible (first | exact qS | assumption) | refine qN rfl ?_ | exact qO rfl))) Tryz.underlying96 (by kernel_rfl) (by omega) (Nat.le_refl _) ?_)
    refine RP.r rfl (op_load (qT (by repeat (first | with_reducible (first | exact qS | assumption) | refine qN rfl ?_ | exact qO rfl))) (hV.load (x := .int .u32 (.ofNat (part b i (i / 4)))) (by kernel_rfl) (u32L_get (rowW_get hq))) ?_)
    refine RP.p rfl (op_move (qT (by repeat (first | with_reducible (first | exact qS | assumption) | refine qN rfl ?_ | exact qO rfl))) ?_)
    refine RP.p rfl (op_conv (qT (by repeat (first | with_reducible (first | exact qS | assumption) | refine qN rfl ?_ | exact qO rfl))) Tryz.underlying5 Tryz.underlying35 (by have e1 : topK .i64 = 9223372036854775808 := rfl; have e2 : topK .u32 = 4294967296 := rfl; have e3 : topK .u64 = 18446744073709551616 := rfl; have e4 : topK .u8 = 256 := rfl; have e5 : topK .u16 = 65536 := rfl; omega) ?_)
    refine RP.p rfl (op_move (qT (by repeat (first | with_reducible (first | exact qS | assumption) | refine qN rfl ?_ | exact qO rfl))) ?_)
    refine RP.p rfl (op_bin (qT (by repeat (first | with_reducible (first | exact qS | assumption) | refine qN rfl ?_ | exact qO rfl))) (show ev _ _ = some (.int .i64 (.ofNat 4)) from rfl) (bin_rem (by omega)) ?_)
    refine RP.p rfl (op_bin (show ev _ _ = some (.int .i64 (.ofNat 8)) from rfl) (qT (by repeat (first | with_reducible (first | exact qS | assumption) | refine qN rfl ?_ | exact qO rfl))) (bin_mul (by have e1 : topK .i64 = 9223372036854775808 := rfl; have e2 : topK .u32 = 4294967296 := rfl; have e3 : topK .u64 = 18446744073709551616 := rfl; have e4 : topK .u8 = 256 := rfl; have e5 : topK .u16 = 65536 := rfl; omega)) ?_)
    refine RP.p rfl (op_bin (show ev _ _ = some (.int .i64 (.ofNat 24)) from rfl) (qT (by repeat (first | with_reducible (first | exact qS | assumption) | refine qN rfl ?_ | exact qO rfl))) (bin_sub (by omega) (by have e1 : topK .i64 = 9223372036854775808 := rfl; have e2 : topK .u32 = 4294967296 := rfl; have e3 : topK .u64 = 18446744073709551616 := rfl; have e4 : topK .u8 = 256 := rfl; have e5 : topK .u16 = 65536 := rfl; omega)) ?_)
    refine RP.p rfl (op_bin (qT (by repeat (first | with_reducible (first | exact qS | assumption) | refine qN rfl ?_ | exact qO rfl))) (qT (by repeat (first | with_reducible (first | exact qS | assumption) | refine qN rfl ?_ | exact qO rfl))) (bin_shl (by show _ ≤ 32; omega) (by have e1 : topK .i64 = 9223372036854775808 := rfl; have e2 : topK .u32 = 4294967296 := rfl; have e3 : topK .u64 = 18446744073709551616 := rfl; have e4 : topK .u8 = 256 := rfl; have e5 : topK .u16 = 65536 := rfl; omega)) ?_)
    refine RP.p rfl (op_bin (qT (by repeat (first | with_reducible (first | exact qS | assumption) | refine qN rfl ?_ | exact qO rfl))) (qT (by repeat (first | with_reducible (first | exact qS | assumption) | refine qN rfl ?_ | exact qO rfl))) (bin_or (by have e1 : topK .i64 = 9223372036854775808 := rfl; have e2 : topK .u32 = 4294967296 := rfl; have e3 : topK .u64 = 18446744073709551616 := rfl; have e4 : topK .u8 = 256 := rfl; have e5 : topK .u16 = 65536 := rfl; omega) (by have e1 : topK .i64 = 9223372036854775808 := rfl; have e2 : topK .u32 = 4294967296 := rfl; have e3 : topK .u64 = 18446744073709551616 := rfl; have e4 : topK .u8 = 256 := rfl; have e5 : topK .u16 = 65536 := rfl; omega)) ?_)
    refine RP.p rfl (op_indexAddr (qT (by repeat (first | with_reducible (first | exact qS | assumption) | refine qN rfl ?_ | exact qO rfl))) (qT (by repeat (first | with_reducible (first | exact qS | assumption) | refine qN rfl ?_ | exact qO rfl))) Tryz.underlying96 (by kernel_rfl) (by omega) (Nat.le_refl _) ?_)
    refine RP.e rfl (op_store (qT (by repeat (first | with_reducible (first | exact qS | assumption) | refine qN rfl ?_ | exact qO rfl))) (qT (by repeat (first | with_reducible (first | exact qS | assumption) | refine qN rfl ?_ | exact qO rfl))) o1 (by kernel_rfl) rfl (by omega) ?_)
    refine RP.nil ?_
    refine Gives.region [.p 0, .p 1] (by kernel_rfl) ?_
    refine RP.p rfl (op_bin (qT (by repeat (first | with_reducible (first | exact qS | assumption) | refine qN rfl ?_ | exact qO rfl))) (show ev _ _ = some (.int .i64 (.ofNat 1)) from rfl) (bin_add (by have e1 : topK .i64 = 9223372036854775808 := rfl; have e2 : topK .u32 = 4294967296 := rfl; have e3 : topK .u64 = 18446744073709551616 := rfl; have e4 : topK .u8 = 256 := rfl; have e5 : topK .u16 = 65536 := rfl; omega)) ?_)
    refine RP.p rfl (op_move (qT (by repeat (first | with_reducible (first | exact qS | assumption) | refine qN rfl ?_ | exact qO rfl))) ?_)
    refine RP.nil ?_
    rw [show 0 + (2 + i / 4) * 1 = 2 + i / 4 by omega]
    exact ⟨k, by omega, i + 1, by omega, (by repeat (first | with_reducible (first | exact qS | assumption) | refine qN rfl ?_ | exact qO rfl)), (by repeat (first | with_reducible (first | exact qS | assumption) | refine qN rfl ?_ | exact qO rfl)), (by repeat (first | with_reducible (first | exact qS | assumption) | refine qN rfl ?_ | exact qO rfl)), (by repeat (first | with_reducible (first | exact qS | assumption) | refine qN rfl ?_ | exact qO rfl)), (by repeat (first | with_reducible (first | exact qS | assumption) | refine qN rfl ?_ | exact qO rfl)), hv', f'⟩
  · have hi' : ¬ i < b.length := of_decide_eq_false hb'
    obtain rfl : i = b.length := by omega
    have htl : ((rowW g b b.length).take (wordsK b + 2)).length = wordsK b + 2 := by rw [List.length_take, rowW_length]; omega
    have hlt : ∀ x ∈ (rowW g b b.length).take (wordsK b + 2), x < 4294967296 := by
      rw [rowW_end hb]
      intro x hx
      rcases List.mem_cons.1 hx with rfl | hx
      · exact hg
      rcases List.mem_cons.1 hx with rfl | hx
      · omega
      · exact body_lt hb hx
    have hVt : Vals h' h.next 0 (u32L ((rowW g b b.length).take (wordsK b + 2))) := by
      unfold u32L; rw [List.map_take]; exact hV.take
    refine Gives.exit_same ?_
    refine Gives.seq ?_
    refine Gives.region [.p 0, .p 1, .p 2, .p 3, .p 4, .p 5, .p 6, .e 7 [], .e 8 [], .p 9, .e 10 []] (by kernel_rfl) ?_
    refine RP.p rfl (op_move (qT (by repeat (first | with_reducible (first | exact qS | assumption) | refine qN rfl ?_ | exact qO rfl))) ?_)
    refine RP.p rfl (op_move (qT (by repeat (first | with_reducible (first | exact qS | assumption) | refine qN rfl ?_ | exact qO rfl))) ?_)
    refine RP.p rfl (op_bin (qT (by repeat (first | with_reducible (first | exact qS | assumption) | refine qN rfl ?_ | exact qO rfl))) (show ev _ _ = some (.int .i64 (.ofNat 2)) from rfl) (bin_add (by have e1 : topK .i64 = 9223372036854775808 := rfl; have e2 : topK .u32 = 4294967296 := rfl; have e3 : topK .u64 = 18446744073709551616 := rfl; have e4 : topK .u8 = 256 := rfl; have e5 : topK .u16 = 65536 := rfl; omega)) ?_)
    refine RP.p rfl (op_move (qT (by repeat (first | with_reducible (first | exact qS | assumption) | refine qN rfl ?_ | exact qO rfl))) ?_)
    refine RP.p rfl (op_move (qT (by repeat (first | with_reducible (first | exact qS | assumption) | refine qN rfl ?_ | exact qO rfl))) ?_)
    refine RP.p rfl (op_bin (qT (by repeat (first | with_reducible (first | exact qS | assumption) | refine qN rfl ?_ | exact qO rfl))) (show ev _ _ = some (.int .i64 (.ofNat 2)) from rfl) (bin_add (by have e1 : topK .i64 = 9223372036854775808 := rfl; have e2 : topK .u32 = 4294967296 := rfl; have e3 : topK .u64 = 18446744073709551616 := rfl; have e4 : topK .u8 = 256 := rfl; have e5 : topK .u16 = 65536 := rfl; omega)) ?_)
    refine RP.p rfl (op_slice (lo' := none) (hi' := some (.int .i64 (.ofNat (wordsK b + 2)))) (qT (by repeat (first | with_reducible (first | exact qS | assumption) | refine qN rfl ?_ | exact qO rfl))) rfl (evo_some (qT (by repeat (first | with_reducible (first | exact qS | assumption) | refine qN rfl ?_ | exact qO rfl)))) Tryz.underlying96 (by kernel_rfl) (bnds_hi (by omega)) (Nat.le_refl _) ?_)
    have hsl : AV.slice h.next (0 + 0 * 1) (wordsK b + 2 - 0) (wordsK b + 3 - 0) 1 true = .slice h.next 0 ((rowW g b b.length).take (wordsK b + 2)).length (wordsK b + 3) 1 true := by rw [htl]; simp
    rw [hsl]
    refine RP.e rfl (op_calls (evs_cons (qT (by repeat (first | with_reducible (first | exact qS | assumption) | refine qN rfl ?_ | exact qO rfl))) evs_nil) (by kernel_rfl) (octets_spec hS (by omega) hF.wf hVt (by rw [htl]; omega) hlt (by rw [htl]; omega) (by rw [htl]; omega)) ?_)
    rintro v h3 ⟨⟨bb, cp, ex, rfl, hcp, hge, hVb⟩, hF3⟩
    have hol : (octs ((rowW g b b.length).take (wordsK b + 2))).length ≤ 800000 := by rw [octs_length, htl]; omega
    refine RP.e rfl (op_calls (evs_cons (qT (by repeat (first | with_reducible (first | exact qS | assumption) | refine qN rfl ?_ | exact qO rfl))) evs_nil) (by kernel_rfl) (sum32_spec hS bb 0 cp ex _ (fun x hx => octs_lt hx) hcp (by omega) (by omega) (Bts.lb hVb)) ?_)
    rintro v h4 ⟨rfl, rfl⟩
    have hV3 := hV.fr hF.wf hF3 id
    have hF4 := hF.trans hF3
    obtain ⟨m2, c2, o1, o2, o3⟩ := hV3
    have hV3 : Vals h3 h.next 0 (u32L (rowW g b b.length)) := ⟨m2, c2, o1, o2, o3⟩
    rw [u32L_length, rowW_length] at o2
    rw [rowW_end hb]
    have hv' := hV3.put (a := wordsK b + 2) (v := .int .u32 (.ofNat (crc32 0 (octs (g :: b.length :: body b))))) o1
    rw [u32L_set, rowW_fin hb] at hv'
    have f' := hF4.set (.cells m2 (c2.put (wordsK b + 2) (.int .u32 (.ofNat (crc32 0 (octs (g :: b.length :: body b))))))) (hF4.wf.lt o1) fun hh => absurd hh (Nat.lt_irrefl _)
    refine RP.p rfl (op_indexAddr (qT (by repeat (first | with_reducible (first | exact qS | assumption) | refine qN rfl ?_ | exact qO rfl))) (qT (by repeat (first | with_reducible (first | exact qS | assumption) | refine qN rfl ?_ | exact qO rfl))) Tryz.underlying96 (by kernel_rfl) (by omega) (Nat.le_refl _) ?_)
    refine RP.e rfl (op_store (qT (by repeat (first | with_reducible (first | exact qS | assumption) | refine qN rfl ?_ | exact qO rfl))) (qT (by repeat (first | with_reducible (first | exact qS | assumption) | refine qN rfl ?_ | exact qO rfl))) o1 (by kernel_rfl) rfl (by omega) ?_)
    refine RP.nil ?_
    rw [show 0 + (wordsK b + 2) * 1 = wordsK b + 2 by omega]
    refine Gives.seq ?_
    refine Gives.region [.p 0, .p 1] (by kernel_rfl) ?_
    refine RP.p rfl (op_move (qT (by repeat (first | with_reducible (first | exact qS | assumption) | refine qN rfl ?_ | exact qO rfl))) ?_)
    refine RP.p rfl (op_assign (qT (by repeat (first | with_reducible (first | exact qS | assumption) | refine qN rfl ?_ | exact qO rfl))) ?_)
    refine RP.nil ?_
    exact Gives.ret0 (RS.one (by repeat (first | with_reducible (first | exact qS | assumption) | refine qN rfl ?_ | exact qO rfl)) ⟨h.next, rfl, Nat.le_refl _, hv', f'⟩)
end Go.Abs

/- slices.Equal of two rows of words. No condition. -/
namespace Go.Abs
open Go.Proofs
variable {X : Ext0} {S : Sums} {L : Nat} {h : H}
theorem equal_spec {d : Nat} (hS : SOk S) {b1 o1 c1 b2 o2 c2 : Nat} {e1 e2 : Bool} {l1 l2 : List Nat} (hV1 : Vals h b1 o1 (u32L l1)) (hV2 : Vals h b2 o2 (u32L l2)) (hc1 : l1.length ≤ c1) (hc2 : l2.length ≤ c2) (hL : l1.length < L) (hn : l1.length < 1000000) :
    CS Tryz.prog X S L (d + 1) 109 [.slice b1 o1 l1.length c1 1 e1, .slice b2 o2 l2.length c2 1 e2] h (fun v h' => v = .bool (decide (l1 = l2)) ∧ h = h') := by
  refine CS.of (rs := [.tmp 4]) (hS.none _ (by decide) (by decide)) Tryz.func109 rfl rfl ?_
  refine Gives.seq ?_
  refine Gives.region [.p 0] (by kernel_rfl) ?_
  refine RP.p rfl (op_assign rfl ?_)
  refine RP.nil ?_
  refine Gives.seq ?_
  refine Gives.seq ?_
  refine Gives.region [.p 0, .p 1, .p 2, .p 3, .p 4] (by kernel_rfl) ?_
  refine RP.p rfl (op_move (qT (by repeat (first | with_reducible (first | exact qS | assumption) | refine qN rfl ?_ | exact qO rfl))) ?_)
  refine RP.p rfl (op_len_slice (qT (by repeat (first | with_reducible (first | exact qS | assumption) | refine qN rfl ?_ | exact qO rfl))) Tryz.underlying96 ?_)
  refine RP.p rfl (op_move (qT (by repeat (first | with_reducible (first | exact qS | assumption) | refine qN rfl ?_ | exact qO rfl))) ?_)
  refine RP.p rfl (op_len_slice (qT (by repeat (first | with_reducible (first | exact qS | assumption) | refine qN rfl ?_ | exact qO rfl))) Tryz.underlying96 ?_)
  refine RP.p rfl (op_bin (qT (by repeat (first | with_reducible (first | exact qS | assumption) | refine qN rfl ?_ | exact qO rfl))) (qT (by repeat (first | with_reducible (first | exact qS | assumption) | refine qN rfl ?_ | exact qO rfl))) bin_neqN ?_)
  refine RP.nil ?_
  refine Gives.cond (qT (by repeat (first | with_reducible (first | exact qS | assumption) | refine qN rfl ?_ | exact qO rfl))) (fun hb => ?_) (fun hb => ?_)
  · have hb := of_decide_eq_true hb
    refine Gives.seq ?_
    refine Gives.region [.p 0] (by kernel_rfl) ?_
    refine RP.p rfl (op_assign rfl ?_)
    refine RP.nil ?_
    exact Gives.ret0 (RS.one (v := .bool false) (by repeat (first | with_reducible (first | exact qS | assumption) | refine qN rfl ?_ | exact qO rfl)) ⟨by rw [decide_eq_false (fun e => hb (by rw [e]))], rfl⟩)
  have hlen : l1.length = l2.length := by have := of_decide_eq_false hb; omega
  refine Gives.skip ?_
  refine Gives.seq ?_
  refine Gives.seq ?_
  refine Gives.region [.p 0, .p 1, .p 2] (by kernel_rfl) ?_
  refine RP.p rfl (op_move (qT (by repeat (first | with_reducible (first | exact qS | assumption) | refine qN rfl ?_ | exact qO rfl))) ?_)
  refine RP.p rfl (op_len_slice (qT (by repeat (first | with_reducible (first | exact qS | assumption) | refine qN rfl ?_ | exact qO rfl))) Tryz.underlying96 ?_)
  refine RP.p rfl (op_move (show ev _ _ = some (.int .i64 (.ofNat 0)) from rfl) ?_)
  refine RP.nil ?_
  refine Gives.block ?_
  refine Gives.loop (I := fun k F h' => ∃ i, k + i = l1.length ∧ F.at 0 = some (.slice b1 o1 l1.length c1 1 e1) ∧ F.at 1 = some (.slice b2 o2 l2.length c2 1 e2) ∧ F.at 12 = some (.int .i64 (.ofNat l1.length)) ∧ F.at 13 = some (.int .i64 (.ofNat i)) ∧ (∀ j, j < i → l1[j]? = l2[j]?) ∧ h = h')
    (fun k F h' hI => ?_) (k := l1.length) (by omega) ⟨0, rfl, (by repeat (first | with_reducible (first | exact qS | assumption) | refine qN rfl ?_ | exact qO rfl)), (by repeat (first | with_reducible (first | exact qS | assumption) | refine qN rfl ?_ | exact qO rfl)), (by repeat (first | with_reducible (first | exact qS | assumption) | refine qN rfl ?_ | exact qO rfl)), (by repeat (first | with_reducible (first | exact qS | assumption) | refine qN rfl ?_ | exact qO rfl)), fun j hj => absurd hj (Nat.not_lt_zero _), rfl⟩
  obtain ⟨i, hk, f0, f1, f12, f13, hpre, rfl⟩ := hI
  refine Gives.seq ?_
  refine Gives.region [.p 0] (by kernel_rfl) ?_
  refine RP.p rfl (op_bin (qT (by repeat (first | with_reducible (first | exact qS | assumption) | refine qN rfl ?_ | exact qO rfl))) (qT (by repeat (first | with_reducible (first | exact qS | assumption) | refine qN rfl ?_ | exact qO rfl))) bin_lssN ?_)
  refine RP.nil ?_
  refine Gives.seq ?_
  refine Gives.cond (qT (by repeat (first | with_reducible (first | exact qS | assumption) | refine qN rfl ?_ | exact qO rfl))) (fun hb => ?_) (fun hb => ?_)
  · have hi : i < l1.length := of_decide_eq_true hb
    have hi2 : i < l2.length := by omega
    obtain ⟨k, rfl⟩ : ∃ m, k = m + 1 := ⟨k - 1, by omega⟩
    refine Gives.skip ?_
    refine Gives.seq ?_
    refine Gives.block ?_
    refine Gives.seq ?_
    refine Gives.region [.p 0, .p 1] (by kernel_rfl) ?_
    refine RP.p rfl (op_move (qT (by repeat (first | with_reducible (first | exact qS | assumption) | refine qN rfl ?_ | exact qO rfl))) ?_)
    refine RP.p rfl (op_assign (qT (by repeat (first | with_reducible (first | exact qS | assumption) | refine qN rfl ?_ | exact qO rfl))) ?_)
    refine RP.nil ?_
    refine Gives.seq ?_
    refine Gives.region [.p 0, .p 1, .p 2, .r 3, .p 4, .p 5, .p 6, .r 7, .p 8] (by kernel_rfl) ?_
    refine RP.p rfl (op_move (qT (by repeat (first | with_reducible (first | exact qS | assumption) | refine qN rfl ?_ | exact qO rfl))) ?_)
    refine RP.p rfl (op_move (qT (by repeat (first | with_reducible (first | exact qS | assumption) | refine qN rfl ?_ | exact qO rfl))) ?_)
    refine RP.p rfl (op_indexAddr (qT (by repeat (first | with_reducible (first | exact qS | assumption) | refine qN rfl ?_ | exact qO rfl))) (qT (by repeat (first | with_reducible (first | exact qS | assumption) | refine qN rfl ?_ | exact qO rfl))) Tryz.underlying96 (by kernel_rfl) hi hc1 ?_)
    refine RP.r rfl (op_load (qT (by repeat (first | with_reducible (first | exact qS | assumption) | refine qN rfl ?_ | exact qO rfl))) (hV1.load (x := .int .u32 (.ofNat l1[i])) (by kernel_rfl) (u32L_get (List.getElem?_eq_getElem hi))) ?_)
    refine RP.p rfl (op_move (qT (by repeat (first | with_reducible (first | exact qS | assumption) | refine qN rfl ?_ | exact qO rfl))) ?_)
    refine RP.p rfl (op_move (qT (by repeat (first | with_reducible (first | exact qS | assumption) | refine qN rfl ?_ | exact qO rfl))) ?_)
    refine RP.p rfl (op_indexAddr (qT (by repeat (first | with_reducible (first | exact qS | assumption) | refine qN rfl ?_ | exact qO rfl))) (qT (by repeat (first | with_reducible (first | exact qS | assumption) | refine qN rfl ?_ | exact qO rfl))) Tryz.underlying96 (by kernel_rfl) hi2 hc2 ?_)
    refine RP.r rfl (op_load (qT (by repeat (first | with_reducible (first | exact qS | assumption) | refine qN rfl ?_ | exact qO rfl))) (hV2.load (x := .int .u32 (.ofNat l2[i])) (by kernel_rfl) (u32L_get (List.getElem?_eq_getElem hi2))) ?_)
    refine RP.p rfl (op_bin (qT (by repeat (first | with_reducible (first | exact qS | assumption) | refine qN rfl ?_ | exact qO rfl))) (qT (by repeat (first | with_reducible (first | exact qS | assumption) | refine qN rfl ?_ | exact qO rfl))) bin_neqN ?_)
    refine RP.nil ?_
    refine Gives.cond (qT (by repeat (first | with_reducible (first | exact qS | assumption) | refine qN rfl ?_ | exact qO rfl))) (fun hb => ?_) (fun hb => ?_)
    · have hb := of_decide_eq_true hb
      refine Gives.seq ?_
      refine Gives.region [.p 0] (by kernel_rfl) ?_
      refine RP.p rfl (op_assign rfl ?_)
      refine RP.nil ?_
      refine Gives.ret2 (RS.one (v := .bool false) (by repeat (first | with_reducible (first | exact qS | assumption) | refine qN rfl ?_ | exact qO rfl)) ⟨by rw [decide_eq_false (fun e => hb (by subst e; rfl))], rfl⟩)
    have hb := of_decide_eq_false hb
    have hb : l1[i] = l2[i] := by omega
    refine Gives.skip ?_
    refine Gives.region [.p 0, .p 1] (by kernel_rfl) ?_
    refine RP.p rfl (op_bin (qT (by repeat (first | with_reducible (first | exact qS | assumption) | refine qN rfl ?_ | exact qO rfl))) (show ev _ _ = some (.int .i64 (.ofNat 1)) from rfl) (bin_add (by have e1 : topK .i64 = 9223372036854775808 := rfl; have e2 : topK .u32 = 4294967296 := rfl; have e3 : topK .u64 = 18446744073709551616 := rfl; have e4 : topK .u8 = 256 := rfl; have e5 : topK .u16 = 65536 := rfl; omega)) ?_)
    refine RP.p rfl (op_move (qT (by repeat (first | with_reducible (first | exact qS | assumption) | refine qN rfl ?_ | exact qO rfl))) ?_)
    refine RP.nil ?_
    refine ⟨k, by omega, i + 1, by omega, (by repeat (first | with_reducible (first | exact qS | assumption) | refine qN rfl ?_ | exact qO rfl)), (by repeat (first | with_reducible (first | exact qS | assumption) | refine qN rfl ?_ | exact qO rfl)), (by repeat (first | with_reducible (first | exact qS | assumption) | refine qN rfl ?_ | exact qO rfl)), (by repeat (first | with_reducible (first | exact qS | assumption) | refine qN rfl ?_ | exact qO rfl)), fun j hj => ?_, rfl⟩
    by_cases e : j = i
    · subst e; rw [List.getElem?_eq_getElem hi, List.getElem?_eq_getElem hi2, hb]
    · exact hpre j (by omega)
  · have hi : ¬ i < l1.length := of_decide_eq_false hb
    obtain rfl : i = l1.length := by omega
    have hall : l1 = l2 := by
      apply List.ext_getElem?
      intro j
      by_cases hj : j < l1.length
      · exact hpre j hj
      · rw [List.getElem?_eq_none (by omega), List.getElem?_eq_none (by omega)]
    refine Gives.exit_same ?_
    refine Gives.seq ?_
    refine Gives.region [.p 0] (by kernel_rfl) ?_
    refine RP.p rfl (op_assign rfl ?_)
    refine RP.nil ?_
    exact Gives.ret0 (RS.one (v := .bool true) (by repeat (first | with_reducible (first | exact qS | assumption) | refine qN rfl ?_ | exact qO rfl)) ⟨by rw [decide_eq_true hall], rfl⟩)
end Go.Abs
