/- Data units: a copy is made; the receiving end takes a frame. No condition. -/
import Derived.Test.YtkihpcjfhilgcaaGreatU03
namespace Go.Abs
open Go.Proofs
section
variable {P : Program} {h h' h'' : H} {F : Fm} {t : TypeId} {x y : Operand} {k : IntKind}
theorem bin_eql_snil {b o n c s : Nat} {ex : Bool} {e : TypeId} (hu : P.underlying t = some (.slice e)) : binA P .eql t x y (.slice b o n c s ex) .snil = some (.bool false) := by
  simp only [binA, scal, eqOp, eqk, hu]; rfl
theorem gets_lb {c : Tr AV} {o : Nat} {l : List Nat} (hc : ∀ i x, l[i]? = some x → c.at (o + i) = some (.int .u8 (.ofNat x))) : gets c o l.length = some (u8L l) := by
  have := gets_all (c := c) (l := u8L l) (o := o) fun i hi => by
    rw [u8L_length] at hi
    rw [hc i _ (List.getElem?_eq_getElem hi)]
    unfold u8L
    rw [List.getElem?_map, List.getElem?_eq_getElem hi]; rfl
  rwa [u8L_length] at this
theorem lb_obj {b o : Nat} {l : List Nat} (hlb : LB h b o l) (h0 : 0 < l.length) : (∃ m c, h.obj b = some (.cells m c) ∧ o + l.length ≤ m ∧ gets c o l.length = some (u8L l)) ∨ ∃ c, h.obj b = some (.ro c) ∧ gets c o l.length = some (u8L l) := by
  have hag : isAg Tryz.prog 5 = some false := by kernel_rfl
  have hlast := hlb (l.length - 1) _ (List.getElem?_eq_getElem (show l.length - 1 < l.length by omega))
  cases hob : h.obj b with
  | none => unfold loadA at hlast; rw [hob] at hlast; cases hlast
  | some ob =>
    cases ob with
    | cells m c =>
      have hh : ∀ i x, l[i]? = some x → o + i < m ∧ c.at (o + i) = some (.int .u8 (.ofNat x)) := fun i x hx => by
        have h1 := hlb i x hx
        unfold loadA at h1
        simp only [hob, hag, Bool.cond_eq_ite] at h1
        split at h1
        · rename_i hlt; exact ⟨by simpa using hlt, h1⟩
        · cases h1
      exact .inl ⟨m, c, rfl, by have := (hh (l.length - 1) _ (List.getElem?_eq_getElem (show l.length - 1 < l.length by omega))).1; omega, gets_lb fun i x hx => (hh i x hx).2⟩
    | ro c =>
      refine .inr ⟨c, rfl, gets_lb fun i x hx => ?_⟩
      have h1 := hlb i x hx
      unfold loadA at h1
      simp only [hob, hag] at h1
      exact h1
    | _ => unfold loadA at hlast; simp only [hob] at hlast; cases hlast
theorem srcA_img {v : AV} {l : List Nat} {e : TypeId} (hu : Tryz.prog.underlying t = some (.slice e)) (hi : Img h v l) (h0 : 0 < l.length) : srcA Tryz.prog h t 1 v = some (l.length, u8L l) := by
  rcases hi with ⟨rfl, rfl⟩ | ⟨b, o, cp, ex, rfl, hcp, hlb⟩
  · exact absurd h0 (Nat.lt_irrefl _)
  · have e1 : (Nat.beq 1 1 && Nat.ble l.length cp) = true := by simp [hcp]
    have e2 : Nat.beq (l.length * 1) 0 = false := by
      rw [Nat.mul_one]
      exact beq_ne (by omega)
    rcases lb_obj hlb h0 with ⟨m, c, hob, hm, hg⟩ | ⟨c, hob, hg⟩
    · have e3 : Nat.ble (o + l.length * 1) m = true := Nat.ble_eq_true_of_le (by omega)
      rw [← Nat.mul_one l.length] at hg
      simp only [srcA, hu, e1, e2, e3, cond_true, cond_false, hob, hg, u8L_one]
    · rw [← Nat.mul_one l.length] at hg
      simp only [srcA, hu, e1, e2, cond_true, cond_false, hob, hg, u8L_one]
end
theorem Img.frC {h h' : H} {v : AV} {l : List Nat} (r : Img h v l) (w : WF h) {B : Nat → Prop} (f : Fr B h h') (hn : ∀ b, blkOf v b → ¬ B b) : Img h' v l := by
  rcases r with r | ⟨b, o, cp, ex, rfl, h1, h2⟩
  · exact .inl r
  · exact .inr ⟨b, o, cp, ex, rfl, h1, h2.fr w f (hn b rfl)⟩
def Dt (h : H) (N : Nat) (v : AV) (l : List Nat) : Prop := Img h v l ∧ ∀ b, blkOf v b → N ≤ b ∧ b < h.next
theorem Dt.fr {h h' : H} {N : Nat} {v : AV} {l : List Nat} (r : Dt h N v l) (w : WF h) {B : Nat → Prop} (f : Fr B h h') (hn : ∀ b, blkOf v b → ¬ B b) : Dt h' N v l :=
  ⟨r.1.frC w f hn, fun b hb => ⟨(r.2 b hb).1, Nat.lt_of_lt_of_le (r.2 b hb).2 f.next⟩⟩
theorem copy_append {h : H} {b bytes : Nat} {v : AV} {l : List Nat} (hw : WF h) (_hi : Img h v l) (h1 : 0 < l.length) (h2 : l.length ≤ 1000000) (hb : bytes ≤ 8) :
    ∃ v' h', appendTo h 1 bytes (.slice b 0 0 0 1 true) l.length (u8L l) = some (v', h') ∧ Dt h' h.next v' l ∧ Fr (fun _ => False) h h' := by
  refine ⟨.slice h.next 0 l.length l.length 1 false, h.new (.cells (u8L l).length (ofL (u8L l))), ?_, ⟨.inr ⟨h.next, 0, l.length, false, rfl, Nat.le_refl _, fun i x hx => ?_⟩, fun b hb => ?_⟩, (Fr.refl hw).new _⟩
  · have e1 : Nat.ble (0 + l.length) 0 = false := by
      cases hh : Nat.ble (0 + l.length) 0 with
      | false => rfl
      | true => have := Nat.le_of_ble_eq_true hh; omega
    have e2 : (Nat.ble (2 * (0 + l.length) * bytes) 281474976710656 && Nat.ble (0 + l.length) 4611686018427387904) = true := by
      have : 2 * (0 + l.length) * bytes ≤ 2 * (0 + l.length) * 8 := Nat.mul_le_mul_left _ hb
      simp only [Nat.zero_add] at this ⊢
      rw [Bool.and_eq_true]
      exact ⟨Nat.ble_eq_true_of_le (by omega), Nat.ble_eq_true_of_le (by omega)⟩
    unfold appendTo
    rw [forceL_eq]
    have e3 : (Nat.beq 1 1 && Nat.ble 0 0) = true := rfl
    have e4 : (true && Nat.beq 0 0) = true := rfl
    simp only [e1, e2, e3, e4, cond_true, cond_false, H.rowK_ofL]
  · have hi := (List.getElem?_eq_some_iff.1 hx).1
    refine loadA_cell (by kernel_rfl) (obj_new_same (by simp)) (by rw [u8L_length]; omega) ?_
    unfold ofL
    rw [at_puts, if_pos ⟨Nat.zero_le _, by rw [u8L_length]; omega⟩, Nat.sub_zero, Nat.zero_add]
    unfold u8L
    rw [List.getElem?_map, hx]; rfl
  · obtain rfl : b = h.next := hb
    exact ⟨Nat.le_refl _, Nat.lt_succ_self _⟩
variable {X : Ext0} {S : Sums} {L : Nat} {h0 : H}
theorem clone50_spec {d : Nat} (hS : SOk S) (hw : WF h0) {v : AV} {l : List Nat} (hI : Img h0 v l) (hl1 : 1 ≤ l.length) (hl2 : l.length ≤ 1017) :
    CS Tryz.prog X S L (d + 1) 50 [v] h0 (fun v' h' => Dt h' h0.next v' l ∧ Fr (fun _ => False) h0 h') := by
  obtain ⟨i5, hi5, hs5, hb5⟩ := info5
  have hns : ∃ b o cp ex, v = .slice b o l.length cp 1 ex := by
    rcases hI with ⟨rfl, rfl⟩ | ⟨b, o, cp, ex, rfl, _⟩
    · exact absurd hl1 (by decide)
    · exact ⟨b, o, cp, ex, rfl⟩
  obtain ⟨b, o, cp, ex, rfl⟩ := hns
  refine CS.of (rs := [.tmp 2]) (hS.none _ (by decide) (by decide)) Tryz.func50 rfl rfl ?_
  refine Gives.seq ?_
  refine Gives.region [.p 0] (by kernel_rfl) ?_
  refine RP.p rfl (op_assign rfl ?_)
  refine RP.nil ?_
  refine Gives.seq ?_
  refine Gives.seq ?_
  refine Gives.region [.p 0, .p 1] (by kernel_rfl) ?_
  refine pM rfl rfl ?_
  refine RP.p rfl (op_bin (qT rfl) rfl (bin_eql_snil Tryz.underlying26) ?_)
  refine RP.nil ?_
  refine Gives.else_ (qT rfl) ?_
  refine Gives.skip ?_
  refine Gives.seq ?_
  refine Gives.region [.p 0, .p 1, .e 2 [], .p 3] (by kernel_rfl) ?_
  refine RP.p rfl (op_buildSlice (e := 5) (s := 1) (z := .int .u8 (.ofNat 0)) (cs := []) Tryz.underlying26 (by kernel_rfl) (by kernel_rfl) evParts_nil rfl rfl ?_)
  have hw1 : WF (h0.new (.cells 0 (ofL []))) := hw.new
  obtain ⟨v', h', ha, hD, hF⟩ := copy_append (b := h0.next) (bytes := i5.bytes) hw1 (hI.fr hw ((Fr.refl hw).new _)) hl1 (by omega) (by omega)
  refine pM rfl rfl ?_
  refine RP.e rfl (op_append (qT rfl) (qT rfl) (appendA_of Tryz.underlying26 hi5 (z := .int .u8 (.ofNat 0)) (by kernel_rfl) rfl hs5 (srcA_img Tryz.underlying26 (hI.fr hw ((Fr.refl hw).new _)) hl1) ha) ?_)
  refine pA rfl rfl ?_
  refine RP.nil ?_
  exact Gives.ret0 (RS.one rfl (⟨⟨hD.1, fun b hb => ⟨Nat.le_of_succ_le (hD.2 b hb).1, (hD.2 b hb).2⟩⟩, ((Fr.refl hw).new _).trans hF⟩))
theorem clone40_spec {d : Nat} (hS : SOk S) (hw : WF h0) {v : AV} {l : List Nat} (hI : Img h0 v l) (hl1 : 1 ≤ l.length) (hl2 : l.length ≤ 1017) :
    CS Tryz.prog X S L (d + 1) 40 [v] h0 (fun v' h' => Dt h' h0.next v' l ∧ Fr (fun _ => False) h0 h') := by
  obtain ⟨i5, hi5, hs5, hb5⟩ := info5
  have hns : ∃ b o cp ex, v = .slice b o l.length cp 1 ex := by
    rcases hI with ⟨rfl, rfl⟩ | ⟨b, o, cp, ex, rfl, _⟩
    · exact absurd hl1 (by decide)
    · exact ⟨b, o, cp, ex, rfl⟩
  obtain ⟨b, o, cp, ex, rfl⟩ := hns
  refine CS.of (rs := [.tmp 2]) (hS.none _ (by decide) (by decide)) Tryz.func40 rfl rfl ?_
  refine Gives.seq ?_
  refine Gives.region [.p 0] (by kernel_rfl) ?_
  refine RP.p rfl (op_assign rfl ?_)
  refine RP.nil ?_
  refine Gives.seq ?_
  refine Gives.seq ?_
  refine Gives.region [.p 0, .p 1] (by kernel_rfl) ?_
  refine pM rfl rfl ?_
  refine RP.p rfl (op_bin (qT rfl) rfl (bin_eql_snil Tryz.underlying26) ?_)
  refine RP.nil ?_
  refine Gives.else_ (qT rfl) ?_
  refine Gives.skip ?_
  refine Gives.seq ?_
  refine Gives.region [.p 0, .p 1, .e 2 [], .p 3] (by kernel_rfl) ?_
  refine RP.p rfl (op_buildSlice (e := 5) (s := 1) (z := .int .u8 (.ofNat 0)) (cs := []) Tryz.underlying26 (by kernel_rfl) (by kernel_rfl) evParts_nil rfl rfl ?_)
  have hw1 : WF (h0.new (.cells 0 (ofL []))) := hw.new
  obtain ⟨v', h', ha, hD, hF⟩ := copy_append (b := h0.next) (bytes := i5.bytes) hw1 (hI.fr hw ((Fr.refl hw).new _)) hl1 (by omega) (by omega)
  refine pM rfl rfl ?_
  refine RP.e rfl (op_append (qT rfl) (qT rfl) (appendA_of Tryz.underlying26 hi5 (z := .int .u8 (.ofNat 0)) (by kernel_rfl) rfl hs5 (srcA_img Tryz.underlying26 (hI.fr hw ((Fr.refl hw).new _)) hl1) ha) ?_)
  refine pA rfl rfl ?_
  refine RP.nil ?_
  exact Gives.ret0 (RS.one rfl (⟨⟨hD.1, fun b hb => ⟨Nat.le_of_succ_le (hD.2 b hb).1, (hD.2 b hb).2⟩⟩, ((Fr.refl hw).new _).trans hF⟩))
def SeqPost (h0 : H) (bg cr wi ch nx _sq : Nat) (dl : Prop) (v : AV) (h' : H) : Prop := ∃ r : Nat, v = nI r ∧ Fr (fun c => c = bg) h0 h' ∧
  (¬ dl → r ≠ 1 ∧ ∃ lo wa re, Cells h' bg (FarmL cr wi ch nx lo wa re 0)) ∧ (dl → r = 1 ∧ ∃ lo wa re, Cells h' bg (FarmL cr wi ch ((nx + 1) % 256) lo wa re 0))
theorem sequence_spec {d : Nat} (hS : SOk S) (hw : WF h0) {bg cr wi ch nx sq : Nat} {lo wa re : Bool} (room : Bool) (hC : Cells h0 bg (FarmL cr wi ch nx lo wa re 0)) (hwi : 1 ≤ wi) (hwi2 : wi ≤ 127) (hnx : nx < 256) (hsq : sq < 256) :
    CS Tryz.prog X S L (d + 4) 49 [.ptr bg 0, nI sq, .bool room] h0 (SeqPost h0 bg cr wi ch nx sq (lo = false ∧ sq = nx ∧ room = true)) := by
  refine CS.of (rs := [.tmp 6]) (hS.none _ (by decide) (by decide)) Tryz.func49 rfl rfl ?_
  have hF : Fr (fun c => c = bg) h0 h0 := Fr.refl hw
  unfold nI
  cases lo with
  | true =>
    refine Gives.seq ?_
    refine Gives.region [.p 0] (by kernel_rfl) ?_
    refine RP.p rfl (op_assign (show ev _ _ = some (.int .i64 (.ofNat 0)) from rfl) ?_)
    refine RP.nil ?_
    refine Gives.seq ?_
    refine Gives.seq ?_
    refine Gives.region [.p 0, .p 1, .p 2, .p 3, .r 4] (by kernel_rfl) ?_
    refine pM rfl rfl ?_
    refine pN rfl rfl ?_
    refine pF (off := 2) rfl rfl (by kernel_rfl) ?_
    refine pF (off := 1) rfl rfl (by kernel_rfl) ?_
    refine pL rfl rfl (hC.load (by kernel_rfl) rfl) ?_
    refine RP.nil ?_
    refine Gives.then_ (qT rfl) ?_
    refine Gives.seq ?_
    refine Gives.region [.p 0] (by kernel_rfl) ?_
    refine RP.p rfl (op_assign (show ev _ _ = some (.int .i64 (.ofNat 4)) from rfl) ?_)
    refine RP.nil ?_
    exact Gives.ret0 (RS.one rfl (⟨4, rfl, hF, fun _ => ⟨by decide, true, wa, re, hC⟩, fun e => by obtain ⟨e1, e2, e3⟩ := e; first | exact absurd e1 (by decide) | exact absurd e3 (by decide) | (exfalso; omega)⟩))
  | false =>
    by_cases hA : (sq + 256 - nx) % 256 = 0
    · have hsn : sq = nx := by omega
      cases room with
      | true =>
        refine Gives.seq ?_
        refine Gives.region [.p 0] (by kernel_rfl) ?_
        refine RP.p rfl (op_assign (show ev _ _ = some (.int .i64 (.ofNat 0)) from rfl) ?_)
        refine RP.nil ?_
        refine Gives.seq ?_
        refine Gives.seq ?_
        refine Gives.region [.p 0, .p 1, .p 2, .p 3, .r 4] (by kernel_rfl) ?_
        refine pM rfl rfl ?_
        refine pN rfl rfl ?_
        refine pF (off := 2) rfl rfl (by kernel_rfl) ?_
        refine pF (off := 1) rfl rfl (by kernel_rfl) ?_
        refine pL rfl rfl (hC.load (by kernel_rfl) rfl) ?_
        refine RP.nil ?_
        refine Gives.else_ (qT rfl) ?_
        refine Gives.skip ?_
        refine Gives.seq ?_
        refine Gives.region [.p 0, .p 1, .p 2, .p 3, .r 4, .p 5, .e 6 [], .p 7] (by kernel_rfl) ?_
        refine pM rfl rfl ?_
        refine pN rfl rfl ?_
        refine pF (off := 2) rfl rfl (by kernel_rfl) ?_
        refine pF (off := 5) rfl rfl (by kernel_rfl) ?_
        refine pL rfl rfl (hC.load (by kernel_rfl) rfl) ?_
        refine pM rfl rfl ?_
        refine RP.e rfl (op_calls (evs_cons (qT rfl) (evs_cons (qT rfl) (evs_cons (show ev _ _ = some (.int .i64 (.ofNat 8)) from rfl) evs_nil))) (by kernel_rfl) (dist_spec hS hnx hsq) ?_)
        rintro v h' ⟨rfl, rfl⟩
        refine pA rfl rfl ?_
        refine RP.nil ?_
        refine Gives.seq ?_
        refine Gives.region [.p 0] (by kernel_rfl) ?_
        refine RP.p rfl (op_assign (show ev _ _ = some (.int .i64 (.ofNat 3)) from rfl) ?_)
        refine RP.nil ?_
        refine Gives.seq ?_
        refine Gives.block ?_
        refine Gives.seq ?_
        refine Gives.block ?_
        refine Gives.seq ?_
        refine Gives.block ?_
        refine Gives.seq ?_
        refine Gives.block ?_
        refine Gives.seq ?_
        refine Gives.block ?_
        refine Gives.seq ?_
        refine Gives.seq ?_
        refine Gives.seq ?_
        refine Gives.region [.p 0, .p 1, .p 2, .p 3, .p 4, .p 5] (by kernel_rfl) ?_
        refine pM rfl rfl ?_
        refine RP.p rfl (op_bin (qT rfl) (show ev _ _ = some (.int .i64 (.ofNat 0)) from rfl) (by first | exact bin_eql_t (by omega) | exact bin_eqlI_t (by first | with_reducible assumption | omega)) ?_)
        refine pM rfl rfl ?_
        refine RP.p rfl (OpP.on' rfl rfl rfl (op_move (qT rfl) ?_))
        refine RP.p rfl (op_pick_t (qT rfl) (qT rfl) ?_)
        refine pA rfl rfl ?_
        refine RP.nil ?_
        refine Gives.then_ (qT rfl) ?_
        refine Gives.exit_same ?_
        refine Gives.seq ?_
        refine Gives.seq ?_
        refine Gives.region [.p 0, .p 1, .e 2 [], .p 3, .p 4, .p 5, .e 6 []] (by kernel_rfl) ?_
        refine pM rfl rfl ?_
        refine pM rfl rfl ?_
        refine RP.e rfl (op_calls (evs_cons (qT rfl) (evs_cons (show ev _ _ = some (.int .i64 (.ofNat 1)) from rfl) (evs_cons (show ev _ _ = some (.int .i64 (.ofNat 8)) from rfl) evs_nil))) (by kernel_rfl) (sadd_spec hS hsq 1) ?_)
        rintro v h' ⟨rfl, rfl⟩
        refine pN rfl rfl ?_
        refine pF (off := 2) rfl rfl (by kernel_rfl) ?_
        refine pF (off := 5) rfl rfl (by kernel_rfl) ?_
        refine RP.e rfl (op_storeC (qT rfl) (qT rfl) hw hC (by kernel_rfl) (by first | rfl | assumption) (Nat.le_of_ble_eq_true rfl) (fun h1 hC1 hF1 hn => ?_))
        replace hC := hC1
        replace hF := hF.then hF1 (by intro c hc; first | exact .inl hc | exact .inl (.inl hc) | exact .inl (.inr hc) | exact hc.elim | (subst hc; right; omega))
        replace hw := hF1.wf
        clear hF1 hn hC1
        refine RP.nil ?_
        refine Gives.seq ?_
        refine Gives.region [.p 0, .p 1, .p 2, .p 3, .p 4, .e 5 [], .p 6, .p 7, .p 8, .e 9 []] (by kernel_rfl) ?_
        refine pM rfl rfl ?_
        refine pM rfl rfl ?_
        refine pN rfl rfl ?_
        refine pF (off := 2) rfl rfl (by kernel_rfl) ?_
        refine pF (off := 2) rfl rfl (by kernel_rfl) ?_
        refine RP.e rfl (op_storeC (qT rfl) rfl hw hC (by kernel_rfl) (by first | rfl | assumption) (Nat.le_of_ble_eq_true rfl) (fun h2 hC1 hF1 hn => ?_))
        replace hC := hC1
        replace hF := hF.then hF1 (by intro c hc; first | exact .inl hc | exact .inl (.inl hc) | exact .inl (.inr hc) | exact hc.elim | (subst hc; right; omega))
        replace hw := hF1.wf
        clear hF1 hn hC1
        refine pN rfl rfl ?_
        refine pF (off := 2) rfl rfl (by kernel_rfl) ?_
        refine pF (off := 3) rfl rfl (by kernel_rfl) ?_
        refine RP.e rfl (op_storeC (qT rfl) rfl hw hC (by kernel_rfl) (by first | rfl | assumption) (Nat.le_of_ble_eq_true rfl) (fun h3 hC1 hF1 hn => ?_))
        replace hC := hC1
        replace hF := hF.then hF1 (by intro c hc; first | exact .inl hc | exact .inl (.inl hc) | exact .inl (.inr hc) | exact hc.elim | (subst hc; right; omega))
        replace hw := hF1.wf
        clear hF1 hn hC1
        refine RP.nil ?_
        refine Gives.seq ?_
        refine Gives.region [.p 0] (by kernel_rfl) ?_
        refine RP.p rfl (op_assign (show ev _ _ = some (.int .i64 (.ofNat 1)) from rfl) ?_)
        refine RP.nil ?_
        exact Gives.ret4 (RS.one rfl (⟨1, rfl, hF, fun e => absurd ⟨rfl, hsn, rfl⟩ e, fun _ => ⟨rfl, false, false, false, by have e : (((sq : Int) + 1) % 256).toNat = (nx + 1) % 256 := (by omega); rw [← e]; exact hC⟩⟩))
      | false =>
        refine Gives.seq ?_
        refine Gives.region [.p 0] (by kernel_rfl) ?_
        refine RP.p rfl (op_assign (show ev _ _ = some (.int .i64 (.ofNat 0)) from rfl) ?_)
        refine RP.nil ?_
        refine Gives.seq ?_
        refine Gives.seq ?_
        refine Gives.region [.p 0, .p 1, .p 2, .p 3, .r 4] (by kernel_rfl) ?_
        refine pM rfl rfl ?_
        refine pN rfl rfl ?_
        refine pF (off := 2) rfl rfl (by kernel_rfl) ?_
        refine pF (off := 1) rfl rfl (by kernel_rfl) ?_
        refine pL rfl rfl (hC.load (by kernel_rfl) rfl) ?_
        refine RP.nil ?_
        refine Gives.else_ (qT rfl) ?_
        refine Gives.skip ?_
        refine Gives.seq ?_
        refine Gives.region [.p 0, .p 1, .p 2, .p 3, .r 4, .p 5, .e 6 [], .p 7] (by kernel_rfl) ?_
        refine pM rfl rfl ?_
        refine pN rfl rfl ?_
        refine pF (off := 2) rfl rfl (by kernel_rfl) ?_
        refine pF (off := 5) rfl rfl (by kernel_rfl) ?_
        refine pL rfl rfl (hC.load (by kernel_rfl) rfl) ?_
        refine pM rfl rfl ?_
        refine RP.e rfl (op_calls (evs_cons (qT rfl) (evs_cons (qT rfl) (evs_cons (show ev _ _ = some (.int .i64 (.ofNat 8)) from rfl) evs_nil))) (by kernel_rfl) (dist_spec hS hnx hsq) ?_)
        rintro v h' ⟨rfl, rfl⟩
        refine pA rfl rfl ?_
        refine RP.nil ?_
        refine Gives.seq ?_
        refine Gives.region [.p 0] (by kernel_rfl) ?_
        refine RP.p rfl (op_assign (show ev _ _ = some (.int .i64 (.ofNat 3)) from rfl) ?_)
        refine RP.nil ?_
        refine Gives.seq ?_
        refine Gives.block ?_
        refine Gives.seq ?_
        refine Gives.block ?_
        refine Gives.seq ?_
        refine Gives.block ?_
        refine Gives.seq ?_
        refine Gives.block ?_
        refine Gives.seq ?_
        refine Gives.block ?_
        refine Gives.seq ?_
        refine Gives.seq ?_
        refine Gives.seq ?_
        refine Gives.region [.p 0, .p 1, .p 2, .p 3, .p 4, .p 5] (by kernel_rfl) ?_
        refine pM rfl rfl ?_
        refine RP.p rfl (op_bin (qT rfl) (show ev _ _ = some (.int .i64 (.ofNat 0)) from rfl) (by first | exact bin_eql_t (by omega) | exact bin_eqlI_t (by first | with_reducible assumption | omega)) ?_)
        refine pM rfl rfl ?_
        refine RP.p rfl (OpP.on' rfl rfl rfl (op_move (qT rfl) ?_))
        refine RP.p rfl (op_pick_t (qT rfl) (qT rfl) ?_)
        refine pA rfl rfl ?_
        refine RP.nil ?_
        refine Gives.else_ (qT rfl) ?_
        refine Gives.skip ?_
        refine Gives.seq ?_
        refine Gives.seq ?_
        refine Gives.region [.p 0, .p 1, .p 2] (by kernel_rfl) ?_
        refine pM rfl rfl ?_
        refine RP.p rfl (op_bin (qT rfl) (show ev _ _ = some (.int .i64 (.ofNat 0)) from rfl) (by first | exact bin_eql_t (by omega) | exact bin_eqlI_t (by first | with_reducible assumption | omega)) ?_)
        refine pA rfl rfl ?_
        refine RP.nil ?_
        refine Gives.then_ (qT rfl) ?_
        refine Gives.exit ?_
        refine blk_other rfl ?_
        refine blk_same ?_
        refine Gives.seq ?_
        refine Gives.region [.p 0, .p 1, .p 2, .p 3, .e 4 []] (by kernel_rfl) ?_
        refine pM rfl rfl ?_
        refine pN rfl rfl ?_
        refine pF (off := 2) rfl rfl (by kernel_rfl) ?_
        refine pF (off := 2) rfl rfl (by kernel_rfl) ?_
        refine RP.e rfl (op_storeC (qT rfl) rfl hw hC (by kernel_rfl) (by first | rfl | assumption) (Nat.le_of_ble_eq_true rfl) (fun h1 hC1 hF1 hn => ?_))
        replace hC := hC1
        replace hF := hF.then hF1 (by intro c hc; first | exact .inl hc | exact .inl (.inl hc) | exact .inl (.inr hc) | exact hc.elim | (subst hc; right; omega))
        replace hw := hF1.wf
        clear hF1 hn hC1
        refine RP.nil ?_
        refine Gives.region [.p 0] (by kernel_rfl) ?_
        refine RP.p rfl (op_assign (show ev _ _ = some (.int .i64 (.ofNat 6)) from rfl) ?_)
        refine RP.nil ?_
        refine Gives.seq ?_
        refine Gives.seq ?_
        refine Gives.region [.p 0, .p 1, .p 2, .p 3, .e 4 []] (by kernel_rfl) ?_
        refine pM rfl rfl ?_
        refine pN rfl rfl ?_
        refine pF (off := 2) rfl rfl (by kernel_rfl) ?_
        refine pF (off := 3) rfl rfl (by kernel_rfl) ?_
        refine RP.e rfl (op_storeC (qT rfl) rfl hw hC (by kernel_rfl) (by first | rfl | assumption) (Nat.le_of_ble_eq_true rfl) (fun h2 hC1 hF1 hn => ?_))
        replace hC := hC1
        replace hF := hF.then hF1 (by intro c hc; first | exact .inl hc | exact .inl (.inl hc) | exact .inl (.inr hc) | exact hc.elim | (subst hc; right; omega))
        replace hw := hF1.wf
        clear hF1 hn hC1
        refine RP.nil ?_
        refine Gives.seq ?_
        refine Gives.region [.p 0, .p 1] (by kernel_rfl) ?_
        refine pM rfl rfl ?_
        refine pA rfl rfl ?_
        refine RP.nil ?_
        exact Gives.ret2 (RS.one rfl (⟨6, rfl, hF, fun _ => ⟨by decide, false, true, true, hC⟩, fun e => by obtain ⟨e1, e2, e3⟩ := e; first | exact absurd e1 (by decide) | exact absurd e3 (by decide) | (exfalso; omega)⟩))
    · by_cases hB : (sq + 256 - nx) % 256 < wi
      ·
        refine Gives.seq ?_
        refine Gives.region [.p 0] (by kernel_rfl) ?_
        refine RP.p rfl (op_assign (show ev _ _ = some (.int .i64 (.ofNat 0)) from rfl) ?_)
        refine RP.nil ?_
        refine Gives.seq ?_
        refine Gives.seq ?_
        refine Gives.region [.p 0, .p 1, .p 2, .p 3, .r 4] (by kernel_rfl) ?_
        refine pM rfl rfl ?_
        refine pN rfl rfl ?_
        refine pF (off := 2) rfl rfl (by kernel_rfl) ?_
        refine pF (off := 1) rfl rfl (by kernel_rfl) ?_
        refine pL rfl rfl (hC.load (by kernel_rfl) rfl) ?_
        refine RP.nil ?_
        refine Gives.else_ (qT rfl) ?_
        refine Gives.skip ?_
        refine Gives.seq ?_
        refine Gives.region [.p 0, .p 1, .p 2, .p 3, .r 4, .p 5, .e 6 [], .p 7] (by kernel_rfl) ?_
        refine pM rfl rfl ?_
        refine pN rfl rfl ?_
        refine pF (off := 2) rfl rfl (by kernel_rfl) ?_
        refine pF (off := 5) rfl rfl (by kernel_rfl) ?_
        refine pL rfl rfl (hC.load (by kernel_rfl) rfl) ?_
        refine pM rfl rfl ?_
        refine RP.e rfl (op_calls (evs_cons (qT rfl) (evs_cons (qT rfl) (evs_cons (show ev _ _ = some (.int .i64 (.ofNat 8)) from rfl) evs_nil))) (by kernel_rfl) (dist_spec hS hnx hsq) ?_)
        rintro v h' ⟨rfl, rfl⟩
        refine pA rfl rfl ?_
        refine RP.nil ?_
        refine Gives.seq ?_
        refine Gives.region [.p 0] (by kernel_rfl) ?_
        refine RP.p rfl (op_assign (show ev _ _ = some (.int .i64 (.ofNat 3)) from rfl) ?_)
        refine RP.nil ?_
        refine Gives.seq ?_
        refine Gives.block ?_
        refine Gives.seq ?_
        refine Gives.block ?_
        refine Gives.seq ?_
        refine Gives.block ?_
        refine Gives.seq ?_
        refine Gives.block ?_
        refine Gives.seq ?_
        refine Gives.block ?_
        refine Gives.seq ?_
        refine Gives.seq ?_
        refine Gives.seq ?_
        refine Gives.region [.p 0, .p 1, .p 2, .p 3, .p 4, .p 5] (by kernel_rfl) ?_
        refine pM rfl rfl ?_
        refine RP.p rfl (op_bin (qT rfl) (show ev _ _ = some (.int .i64 (.ofNat 0)) from rfl) (by first | exact bin_eql_f (by omega) | exact bin_eqlI_f (by first | with_reducible assumption | omega)) ?_)
        refine pM rfl rfl ?_
        refine RP.p rfl (OpP.offF rfl rfl rfl ?_)
        refine RP.p rfl (op_pick_f (qT rfl) rfl ?_)
        refine pA rfl rfl ?_
        refine RP.nil ?_
        refine Gives.else_ (qT rfl) ?_
        refine Gives.skip ?_
        refine Gives.seq ?_
        refine Gives.seq ?_
        refine Gives.region [.p 0, .p 1, .p 2] (by kernel_rfl) ?_
        refine pM rfl rfl ?_
        refine RP.p rfl (op_bin (qT rfl) (show ev _ _ = some (.int .i64 (.ofNat 0)) from rfl) (by first | exact bin_eql_f (by omega) | exact bin_eqlI_f (by first | with_reducible assumption | omega)) ?_)
        refine pA rfl rfl ?_
        refine RP.nil ?_
        refine Gives.else_ (qT rfl) ?_
        refine Gives.skip ?_
        refine Gives.seq ?_
        refine Gives.seq ?_
        refine Gives.region [.p 0, .p 1, .p 2, .p 3, .r 4, .p 5, .p 6] (by kernel_rfl) ?_
        refine pM rfl rfl ?_
        refine pM rfl rfl ?_
        refine pN rfl rfl ?_
        refine pF (off := 1) rfl rfl (by kernel_rfl) ?_
        refine pL rfl rfl (hC.load (by kernel_rfl) rfl) ?_
        refine RP.p rfl (op_bin (qT rfl) (qT rfl) (by first | exact bin_lss_t (by omega) | exact bin_lssI_t (by first | with_reducible assumption | omega)) ?_)
        refine pA rfl rfl ?_
        refine RP.nil ?_
        refine Gives.then_ (qT rfl) ?_
        refine Gives.exit ?_
        refine blk_other rfl ?_
        refine blk_other rfl ?_
        refine blk_same ?_
        refine Gives.seq ?_
        refine Gives.seq ?_
        refine Gives.region [.p 0, .p 1, .p 2, .p 3, .e 4 []] (by kernel_rfl) ?_
        refine pM rfl rfl ?_
        refine pN rfl rfl ?_
        refine pF (off := 2) rfl rfl (by kernel_rfl) ?_
        refine pF (off := 3) rfl rfl (by kernel_rfl) ?_
        refine RP.e rfl (op_storeC (qT rfl) rfl hw hC (by kernel_rfl) (by first | rfl | assumption) (Nat.le_of_ble_eq_true rfl) (fun h1 hC1 hF1 hn => ?_))
        replace hC := hC1
        replace hF := hF.then hF1 (by intro c hc; first | exact .inl hc | exact .inl (.inl hc) | exact .inl (.inr hc) | exact hc.elim | (subst hc; right; omega))
        replace hw := hF1.wf
        clear hF1 hn hC1
        refine RP.nil ?_
        refine Gives.seq ?_
        refine Gives.region [.p 0, .p 1] (by kernel_rfl) ?_
        refine pM rfl rfl ?_
        refine pA rfl rfl ?_
        refine RP.nil ?_
        exact Gives.ret2 (RS.one rfl (⟨3, rfl, hF, fun _ => ⟨by decide, false, wa, true, hC⟩, fun e => by obtain ⟨e1, e2, e3⟩ := e; first | exact absurd e1 (by decide) | exact absurd e3 (by decide) | (exfalso; omega)⟩))
      · by_cases hD : 256 - wi ≤ (sq + 256 - nx) % 256
        ·
          refine Gives.seq ?_
          refine Gives.region [.p 0] (by kernel_rfl) ?_
          refine RP.p rfl (op_assign (show ev _ _ = some (.int .i64 (.ofNat 0)) from rfl) ?_)
          refine RP.nil ?_
          refine Gives.seq ?_
          refine Gives.seq ?_
          refine Gives.region [.p 0, .p 1, .p 2, .p 3, .r 4] (by kernel_rfl) ?_
          refine pM rfl rfl ?_
          refine pN rfl rfl ?_
          refine pF (off := 2) rfl rfl (by kernel_rfl) ?_
          refine pF (off := 1) rfl rfl (by kernel_rfl) ?_
          refine pL rfl rfl (hC.load (by kernel_rfl) rfl) ?_
          refine RP.nil ?_
          refine Gives.else_ (qT rfl) ?_
          refine Gives.skip ?_
          refine Gives.seq ?_
          refine Gives.region [.p 0, .p 1, .p 2, .p 3, .r 4, .p 5, .e 6 [], .p 7] (by kernel_rfl) ?_
          refine pM rfl rfl ?_
          refine pN rfl rfl ?_
          refine pF (off := 2) rfl rfl (by kernel_rfl) ?_
          refine pF (off := 5) rfl rfl (by kernel_rfl) ?_
          refine pL rfl rfl (hC.load (by kernel_rfl) rfl) ?_
          refine pM rfl rfl ?_
          refine RP.e rfl (op_calls (evs_cons (qT rfl) (evs_cons (qT rfl) (evs_cons (show ev _ _ = some (.int .i64 (.ofNat 8)) from rfl) evs_nil))) (by kernel_rfl) (dist_spec hS hnx hsq) ?_)
          rintro v h' ⟨rfl, rfl⟩
          refine pA rfl rfl ?_
          refine RP.nil ?_
          refine Gives.seq ?_
          refine Gives.region [.p 0] (by kernel_rfl) ?_
          refine RP.p rfl (op_assign (show ev _ _ = some (.int .i64 (.ofNat 3)) from rfl) ?_)
          refine RP.nil ?_
          refine Gives.seq ?_
          refine Gives.block ?_
          refine Gives.seq ?_
          refine Gives.block ?_
          refine Gives.seq ?_
          refine Gives.block ?_
          refine Gives.seq ?_
          refine Gives.block ?_
          refine Gives.seq ?_
          refine Gives.block ?_
          refine Gives.seq ?_
          refine Gives.seq ?_
          refine Gives.seq ?_
          refine Gives.region [.p 0, .p 1, .p 2, .p 3, .p 4, .p 5] (by kernel_rfl) ?_
          refine pM rfl rfl ?_
          refine RP.p rfl (op_bin (qT rfl) (show ev _ _ = some (.int .i64 (.ofNat 0)) from rfl) (by first | exact bin_eql_f (by omega) | exact bin_eqlI_f (by first | with_reducible assumption | omega)) ?_)
          refine pM rfl rfl ?_
          refine RP.p rfl (OpP.offF rfl rfl rfl ?_)
          refine RP.p rfl (op_pick_f (qT rfl) rfl ?_)
          refine pA rfl rfl ?_
          refine RP.nil ?_
          refine Gives.else_ (qT rfl) ?_
          refine Gives.skip ?_
          refine Gives.seq ?_
          refine Gives.seq ?_
          refine Gives.region [.p 0, .p 1, .p 2] (by kernel_rfl) ?_
          refine pM rfl rfl ?_
          refine RP.p rfl (op_bin (qT rfl) (show ev _ _ = some (.int .i64 (.ofNat 0)) from rfl) (by first | exact bin_eql_f (by omega) | exact bin_eqlI_f (by first | with_reducible assumption | omega)) ?_)
          refine pA rfl rfl ?_
          refine RP.nil ?_
          refine Gives.else_ (qT rfl) ?_
          refine Gives.skip ?_
          refine Gives.seq ?_
          refine Gives.seq ?_
          refine Gives.region [.p 0, .p 1, .p 2, .p 3, .r 4, .p 5, .p 6] (by kernel_rfl) ?_
          refine pM rfl rfl ?_
          refine pM rfl rfl ?_
          refine pN rfl rfl ?_
          refine pF (off := 1) rfl rfl (by kernel_rfl) ?_
          refine pL rfl rfl (hC.load (by kernel_rfl) rfl) ?_
          refine RP.p rfl (op_bin (qT rfl) (qT rfl) (by first | exact bin_lss_f (by omega) | exact bin_lssI_f (by first | with_reducible assumption | omega)) ?_)
          refine pA rfl rfl ?_
          refine RP.nil ?_
          refine Gives.else_ (qT rfl) ?_
          refine Gives.skip ?_
          refine Gives.seq ?_
          refine Gives.region [.p 0, .p 1, .p 2, .p 3, .r 4, .p 5, .p 6, .p 7] (by kernel_rfl) ?_
          refine pM rfl rfl ?_
          refine pM rfl rfl ?_
          refine pN rfl rfl ?_
          refine pF (off := 1) rfl rfl (by kernel_rfl) ?_
          refine pL rfl rfl (hC.load (by kernel_rfl) rfl) ?_
          refine RP.p rfl (op_bin (show ev _ _ = some (.int .i64 (.ofNat 256)) from rfl) (qT rfl) (by first | exact bin_sub (by omega) (by have e1 : topK .i64 = 9223372036854775808 := rfl; have e2 : topK .u32 = 4294967296 := rfl; have e3 : topK .u64 = 18446744073709551616 := rfl; have e4 : topK .u8 = 256 := rfl; have e5 : topK .u16 = 65536 := rfl; omega) | exact bin_subI) ?_)
          refine RP.p rfl (op_bin (qT rfl) (qT rfl) (by first | exact bin_geq_t (by omega) | exact bin_geqI_t (by first | with_reducible assumption | omega)) ?_)
          refine pA rfl rfl ?_
          refine RP.nil ?_
          refine Gives.then_ (qT rfl) ?_
          refine Gives.exit ?_
          refine blk_other rfl ?_
          refine blk_other rfl ?_
          refine blk_other rfl ?_
          refine blk_same ?_
          refine Gives.seq ?_
          refine Gives.seq ?_
          refine Gives.region [.p 0] (by kernel_rfl) ?_
          refine RP.p rfl (op_assign (show ev _ _ = some (.int .i64 (.ofNat 2)) from rfl) ?_)
          refine RP.nil ?_
          exact Gives.ret1 (RS.one rfl (⟨2, rfl, hF, fun _ => ⟨by decide, false, wa, re, hC⟩, fun e => by obtain ⟨e1, e2, e3⟩ := e; first | exact absurd e1 (by decide) | exact absurd e3 (by decide) | (exfalso; omega)⟩))
        ·
          refine Gives.seq ?_
          refine Gives.region [.p 0] (by kernel_rfl) ?_
          refine RP.p rfl (op_assign (show ev _ _ = some (.int .i64 (.ofNat 0)) from rfl) ?_)
          refine RP.nil ?_
          refine Gives.seq ?_
          refine Gives.seq ?_
          refine Gives.region [.p 0, .p 1, .p 2, .p 3, .r 4] (by kernel_rfl) ?_
          refine pM rfl rfl ?_
          refine pN rfl rfl ?_
          refine pF (off := 2) rfl rfl (by kernel_rfl) ?_
          refine pF (off := 1) rfl rfl (by kernel_rfl) ?_
          refine pL rfl rfl (hC.load (by kernel_rfl) rfl) ?_
          refine RP.nil ?_
          refine Gives.else_ (qT rfl) ?_
          refine Gives.skip ?_
          refine Gives.seq ?_
          refine Gives.region [.p 0, .p 1, .p 2, .p 3, .r 4, .p 5, .e 6 [], .p 7] (by kernel_rfl) ?_
          refine pM rfl rfl ?_
          refine pN rfl rfl ?_
          refine pF (off := 2) rfl rfl (by kernel_rfl) ?_
          refine pF (off := 5) rfl rfl (by kernel_rfl) ?_
          refine pL rfl rfl (hC.load (by kernel_rfl) rfl) ?_
          refine pM rfl rfl ?_
          refine RP.e rfl (op_calls (evs_cons (qT rfl) (evs_cons (qT rfl) (evs_cons (show ev _ _ = some (.int .i64 (.ofNat 8)) from rfl) evs_nil))) (by kernel_rfl) (dist_spec hS hnx hsq) ?_)
          rintro v h' ⟨rfl, rfl⟩
          refine pA rfl rfl ?_
          refine RP.nil ?_
          refine Gives.seq ?_
          refine Gives.region [.p 0] (by kernel_rfl) ?_
          refine RP.p rfl (op_assign (show ev _ _ = some (.int .i64 (.ofNat 3)) from rfl) ?_)
          refine RP.nil ?_
          refine Gives.seq ?_
          refine Gives.block ?_
          refine Gives.seq ?_
          refine Gives.block ?_
          refine Gives.seq ?_
          refine Gives.block ?_
          refine Gives.seq ?_
          refine Gives.block ?_
          refine Gives.seq ?_
          refine Gives.block ?_
          refine Gives.seq ?_
          refine Gives.seq ?_
          refine Gives.seq ?_
          refine Gives.region [.p 0, .p 1, .p 2, .p 3, .p 4, .p 5] (by kernel_rfl) ?_
          refine pM rfl rfl ?_
          refine RP.p rfl (op_bin (qT rfl) (show ev _ _ = some (.int .i64 (.ofNat 0)) from rfl) (by first | exact bin_eql_f (by omega) | exact bin_eqlI_f (by first | with_reducible assumption | omega)) ?_)
          refine pM rfl rfl ?_
          refine RP.p rfl (OpP.offF rfl rfl rfl ?_)
          refine RP.p rfl (op_pick_f (qT rfl) rfl ?_)
          refine pA rfl rfl ?_
          refine RP.nil ?_
          refine Gives.else_ (qT rfl) ?_
          refine Gives.skip ?_
          refine Gives.seq ?_
          refine Gives.seq ?_
          refine Gives.region [.p 0, .p 1, .p 2] (by kernel_rfl) ?_
          refine pM rfl rfl ?_
          refine RP.p rfl (op_bin (qT rfl) (show ev _ _ = some (.int .i64 (.ofNat 0)) from rfl) (by first | exact bin_eql_f (by omega) | exact bin_eqlI_f (by first | with_reducible assumption | omega)) ?_)
          refine pA rfl rfl ?_
          refine RP.nil ?_
          refine Gives.else_ (qT rfl) ?_
          refine Gives.skip ?_
          refine Gives.seq ?_
          refine Gives.seq ?_
          refine Gives.region [.p 0, .p 1, .p 2, .p 3, .r 4, .p 5, .p 6] (by kernel_rfl) ?_
          refine pM rfl rfl ?_
          refine pM rfl rfl ?_
          refine pN rfl rfl ?_
          refine pF (off := 1) rfl rfl (by kernel_rfl) ?_
          refine pL rfl rfl (hC.load (by kernel_rfl) rfl) ?_
          refine RP.p rfl (op_bin (qT rfl) (qT rfl) (by first | exact bin_lss_f (by omega) | exact bin_lssI_f (by first | with_reducible assumption | omega)) ?_)
          refine pA rfl rfl ?_
          refine RP.nil ?_
          refine Gives.else_ (qT rfl) ?_
          refine Gives.skip ?_
          refine Gives.seq ?_
          refine Gives.region [.p 0, .p 1, .p 2, .p 3, .r 4, .p 5, .p 6, .p 7] (by kernel_rfl) ?_
          refine pM rfl rfl ?_
          refine pM rfl rfl ?_
          refine pN rfl rfl ?_
          refine pF (off := 1) rfl rfl (by kernel_rfl) ?_
          refine pL rfl rfl (hC.load (by kernel_rfl) rfl) ?_
          refine RP.p rfl (op_bin (show ev _ _ = some (.int .i64 (.ofNat 256)) from rfl) (qT rfl) (by first | exact bin_sub (by omega) (by have e1 : topK .i64 = 9223372036854775808 := rfl; have e2 : topK .u32 = 4294967296 := rfl; have e3 : topK .u64 = 18446744073709551616 := rfl; have e4 : topK .u8 = 256 := rfl; have e5 : topK .u16 = 65536 := rfl; omega) | exact bin_subI) ?_)
          refine RP.p rfl (op_bin (qT rfl) (qT rfl) (by first | exact bin_geq_f (by omega) | exact bin_geqI_f (by first | with_reducible assumption | omega)) ?_)
          refine pA rfl rfl ?_
          refine RP.nil ?_
          refine Gives.else_ (qT rfl) ?_
          refine Gives.skip ?_
          refine Gives.exit ?_
          refine blk_other rfl ?_
          refine blk_other rfl ?_
          refine blk_other rfl ?_
          refine blk_other rfl ?_
          refine blk_same ?_
          refine Gives.seq ?_
          refine Gives.region [.p 0, .p 1, .p 2, .p 3, .e 4 []] (by kernel_rfl) ?_
          refine pM rfl rfl ?_
          refine pN rfl rfl ?_
          refine pF (off := 2) rfl rfl (by kernel_rfl) ?_
          refine pF (off := 1) rfl rfl (by kernel_rfl) ?_
          refine RP.e rfl (op_storeC (qT rfl) rfl hw hC (by kernel_rfl) (by first | rfl | assumption) (Nat.le_of_ble_eq_true rfl) (fun h1 hC1 hF1 hn => ?_))
          replace hC := hC1
          replace hF := hF.then hF1 (by intro c hc; first | exact .inl hc | exact .inl (.inl hc) | exact .inl (.inr hc) | exact hc.elim | (subst hc; right; omega))
          replace hw := hF1.wf
          clear hF1 hn hC1
          refine RP.nil ?_
          refine Gives.seq ?_
          refine Gives.region [.p 0] (by kernel_rfl) ?_
          refine RP.p rfl (op_assign (show ev _ _ = some (.int .i64 (.ofNat 4)) from rfl) ?_)
          refine RP.nil ?_
          exact Gives.ret0 (RS.one rfl (⟨4, rfl, hF, fun _ => ⟨by decide, true, wa, re, hC⟩, fun e => by obtain ⟨e1, e2, e3⟩ := e; first | exact absurd e1 (by decide) | exact absurd e3 (by decide) | (exfalso; omega)⟩))
def TakePost (h0 : H) (bg cr wi ch nx : Nat) (l : List Nat) (dl : Prop) (v : AV) (h' : H) : Prop := Fr (fun c => c = bg) h0 h' ∧
  (¬ dl → (∃ r : Nat, v = .tup [.snil, nI r] ∧ r ≠ 1) ∧ ∃ lo wa re, Cells h' bg (FarmL cr wi ch nx lo wa re 0)) ∧
  (dl → (∃ v', v = .tup [v', nI 1] ∧ Dt h' h0.next v' l) ∧ ∃ lo wa re, Cells h' bg (FarmL cr wi ch ((nx + 1) % 256) lo wa re 0))
theorem take_spec {d : Nat} (hS : SOk S) (hw : WF h0) {bg cr wi ch nx sq : Nat} {lo wa re : Bool} {dv : AV} {l : List Nat} (room : Bool) (hC : Cells h0 bg (FarmL cr wi ch nx lo wa re 0)) (hwi : 1 ≤ wi) (hwi2 : wi ≤ 127) (hnx : nx < 256) (hsq : sq < 256)
    (hI : Img h0 dv l) (hnb : ∀ b, blkOf dv b → ¬ b = bg) (hcr : cr ≤ 1023) (hch : ch ≤ 7) (hl1 : 1 ≤ l.length) (hl2 : l.length ≤ 1017) :
    CS Tryz.prog X S L (d + 5) 17 [.ptr bg 0, .agg (frameL cr ch sq dv), .bool room] h0 (TakePost h0 bg cr wi ch nx l (lo = false ∧ sq = nx ∧ room = true)) := by
  refine CS.of (rs := [.tmp 6, .tmp 7]) (hS.none _ (by decide) (by decide)) Tryz.func17 rfl rfl ?_
  have hF : Fr (fun c => c = bg) h0 h0 := Fr.refl hw
  have hw0 := hw
  refine Gives.seq ?_
  refine Gives.region [.p 0, .p 1, .p 2] (by kernel_rfl) ?_
  refine RP.p rfl (op_boxC (qT rfl) hw (fun h1 b4 eb4 hB4 hF1 hn => ?_))
  have n_bg_b4 : bg ≠ b4 := by have := hC.lt hw; omega
  have l_b4 : h0.next ≤ b4 := by have := hF.next; omega
  replace hB4 : Cells h1 b4 (frameL cr ch sq dv) := hB4
  replace hC := hC.fr hw hF1 (fun e => e)
  replace hF := hF.then hF1 (by intro c hc; first | exact .inl hc | exact .inl (.inl hc) | exact .inl (.inr hc) | exact hc.elim | (subst hc; right; omega))
  replace hw := hF1.wf
  clear hF1
  refine RP.p rfl (op_assign rfl ?_)
  refine RP.p rfl (op_assign (show ev _ _ = some (.int .i64 (.ofNat 0)) from rfl) ?_)
  refine RP.nil ?_
  refine Gives.seq ?_
  refine Gives.seq ?_
  refine Gives.region [.p 0, .e 1 [], .p 2, .r 3, .e 4 [], .p 5, .p 6, .p 7, .p 8, .r 9, .p 10, .p 11, .p 12, .r 13, .p 14, .p 15, .p 16, .p 17, .r 18, .p 19, .p 20, .p 21, .p 22, .r 23, .p 24, .p 25] (by kernel_rfl) ?_
  refine pM rfl rfl ?_
  refine RP.e rfl (op_calls (evs_cons (qT rfl) evs_nil) (by kernel_rfl) (none_spec hS hC hwi) ?_)
  rintro v h' ⟨rfl, rfl⟩
  refine pM rfl rfl ?_
  refine RP.r rfl (OpR.on' rfl rfl rfl (op_load (qT rfl) (hB4.loadG (m := 6) (vs := frameL cr ch sq dv) (by kernel_rfl) (by kernel_rfl) rfl (Nat.le_of_ble_eq_true rfl)) ?_))
  refine RP.e rfl (OpE.on' rfl rfl rfl (op_calls (evs_cons (qT rfl) evs_nil) (by kernel_rfl) (tvalid_spec hS hw (hI.frC hw0 hF hnb) hcr hch hsq hl1 hl2) ?_))
  rintro v h2 ⟨rfl, hF1⟩
  replace hC := hC.fr hw hF1 (fun e => e)
  replace hB4 := hB4.fr hw hF1 (fun e => e)
  replace hF := hF.then hF1 (by intro c hc; first | exact .inl hc | exact .inl (.inl hc) | exact .inl (.inr hc) | exact hc.elim | (subst hc; right; omega))
  replace hw := hF1.wf
  refine RP.p rfl (OpP.on' rfl rfl rfl (op_notT (qT rfl) ?_))
  refine RP.p rfl (op_pick_f (qT rfl) (qT rfl) ?_)
  refine pM rfl rfl ?_
  refine RP.p rfl (OpP.on' rfl rfl rfl (op_fieldAddr (off := 2) (qT rfl) (by kernel_rfl) ?_))
  refine RP.r rfl (OpR.on' rfl rfl rfl (op_load (qT rfl) (hB4.load (by kernel_rfl) rfl) ?_))
  refine RP.p rfl (OpP.on' rfl rfl rfl (op_move (qT rfl) ?_))
  refine RP.p rfl (OpP.on' rfl rfl rfl (op_nilCheck (qT rfl) ?_))
  refine RP.p rfl (OpP.on' rfl rfl rfl (op_fieldAddr (off := 0) (qT rfl) (by kernel_rfl) ?_))
  refine RP.r rfl (OpR.on' rfl rfl rfl (op_load (qT rfl) (hC.load (by kernel_rfl) rfl) ?_))
  refine RP.p rfl (OpP.on' rfl rfl rfl (op_bin (qT rfl) (qT rfl) (by first | exact bin_neq_f (by omega) | exact bin_neqI_f (by first | with_reducible assumption | omega)) ?_))
  refine RP.p rfl (op_pick_f (qT rfl) (qT rfl) ?_)
  refine pM rfl rfl ?_
  refine RP.p rfl (OpP.on' rfl rfl rfl (op_fieldAddr (off := 3) (qT rfl) (by kernel_rfl) ?_))
  refine RP.r rfl (OpR.on' rfl rfl rfl (op_load (qT rfl) (hB4.load (by kernel_rfl) rfl) ?_))
  refine RP.p rfl (OpP.on' rfl rfl rfl (op_move (qT rfl) ?_))
  refine RP.p rfl (OpP.on' rfl rfl rfl (op_nilCheck (qT rfl) ?_))
  refine RP.p rfl (OpP.on' rfl rfl rfl (op_fieldAddr (off := 2) (qT rfl) (by kernel_rfl) ?_))
  refine RP.p rfl (OpP.on' rfl rfl rfl (op_fieldAddr (off := 0) (qT rfl) (by kernel_rfl) ?_))
  refine RP.r rfl (OpR.on' rfl rfl rfl (op_load (qT rfl) (hC.load (by kernel_rfl) rfl) ?_))
  refine RP.p rfl (OpP.on' rfl rfl rfl (op_bin (qT rfl) (qT rfl) (by first | exact bin_neq_f (by omega) | exact bin_neqI_f (by first | with_reducible assumption | omega)) ?_))
  refine RP.p rfl (op_pick_f (qT rfl) (qT rfl) ?_)
  refine RP.nil ?_
  refine Gives.else_ (qT rfl) ?_
  refine Gives.skip ?_
  refine Gives.seq ?_
  refine Gives.region [.p 0] (by kernel_rfl) ?_
  refine RP.p rfl (op_assign (show ev _ _ = some (.int .i64 (.ofNat 1)) from rfl) ?_)
  refine RP.nil ?_
  refine Gives.seq ?_
  refine Gives.block ?_
  refine Gives.seq ?_
  refine Gives.region [.p 0, .r 1, .p 2] (by kernel_rfl) ?_
  refine pF (off := 1) rfl rfl (by kernel_rfl) ?_
  refine pL rfl rfl (hB4.load (by kernel_rfl) rfl) ?_
  refine pA rfl rfl ?_
  refine RP.nil ?_
  refine Gives.else_ (qT rfl) ?_
  refine Gives.seq ?_
  refine Gives.region [.p 0, .r 1, .p 2] (by kernel_rfl) ?_
  refine pF (off := 0) rfl rfl (by kernel_rfl) ?_
  refine pL rfl rfl (hB4.load (by kernel_rfl) rfl) ?_
  refine pA rfl rfl ?_
  refine RP.nil ?_
  refine Gives.else_ (qT rfl) ?_
  refine Gives.region [.p 0, .p 1, .r 2, .p 3, .e 4 [], .p 5] (by kernel_rfl) ?_
  refine pM rfl rfl ?_
  refine pF (off := 4) rfl rfl (by kernel_rfl) ?_
  refine pL rfl rfl (hB4.load (by kernel_rfl) rfl) ?_
  refine pM rfl rfl ?_
  refine RP.e rfl (op_calls (evs_cons (qT rfl) (evs_cons (qT rfl) (evs_cons (qT rfl) evs_nil))) (by kernel_rfl) (sequence_spec hS hw room hC hwi hwi2 hnx hsq) ?_)
  rintro v h3 ⟨r, rfl, hF1, hqn, hqy⟩
  replace hB4 := hB4.fr hw hF1 (fun e => n_bg_b4.symm e)
  replace hF := hF.then hF1 (by intro c hc; first | exact .inl hc | exact .inl (.inl hc) | exact .inl (.inr hc) | exact hc.elim | (subst hc; right; omega))
  replace hw := hF1.wf
  refine pA rfl rfl ?_
  refine RP.nil ?_
  skip
  by_cases hdl : lo = false ∧ sq = nx ∧ room = true
  · obtain ⟨rfl, lo1, wa1, re1, hC⟩ := hqy hdl
    refine Gives.seq ?_
    refine Gives.seq ?_
    refine Gives.region [.p 0, .p 1] (by kernel_rfl) ?_
    refine pM rfl rfl ?_
    refine RP.p rfl (op_bin (qT rfl) (show ev _ _ = some (.int .i64 (.ofNat 1)) from rfl) (by first | exact bin_neq_f (by omega) | exact bin_neqI_f (by first | with_reducible assumption | omega)) ?_)
    refine RP.nil ?_
    refine Gives.else_ (qT rfl) ?_
    refine Gives.skip ?_
    refine Gives.seq ?_
    refine Gives.region [.p 0, .r 1, .e 2 [], .p 3, .p 4] (by kernel_rfl) ?_
    refine pF (off := 5) rfl rfl (by kernel_rfl) ?_
    refine pL rfl rfl (hB4.load (by kernel_rfl) rfl) ?_
    refine RP.e rfl (op_calls (evs_cons (qT rfl) evs_nil) (by kernel_rfl) (clone50_spec hS hw (hI.frC hw0 hF hnb) hl1 hl2) ?_)
    rintro v h1 ⟨hD, hF1⟩
    replace hD : Dt _ h0.next _ l := ⟨hD.1, fun b hb => ⟨Nat.le_trans hF.next (hD.2 b hb).1, (hD.2 b hb).2⟩⟩
    replace hC := hC.fr hw hF1 (fun e => e)
    replace hB4 := hB4.fr hw hF1 (fun e => e)
    replace hF := hF.then hF1 (by intro c hc; first | exact .inl hc | exact .inl (.inl hc) | exact .inl (.inr hc) | exact hc.elim | (subst hc; right; omega))
    replace hw := hF1.wf
    refine pA rfl rfl ?_
    refine RP.p rfl (op_assign (show ev _ _ = some (.int .i64 (.ofNat 1)) from rfl) ?_)
    refine RP.nil ?_
    exact Gives.ret0 (RS.two rfl rfl (⟨hF, fun e => absurd hdl e, fun _ => ⟨⟨_, rfl, hD⟩, lo1, wa1, re1, hC⟩⟩))
  · obtain ⟨hr, lo1, wa1, re1, hC⟩ := hqn hdl
    refine Gives.seq ?_
    refine Gives.seq ?_
    refine Gives.region [.p 0, .p 1] (by kernel_rfl) ?_
    refine pM rfl rfl ?_
    refine RP.p rfl (op_bin (qT rfl) (show ev _ _ = some (.int .i64 (.ofNat 1)) from rfl) (by first | exact bin_neq_t (by omega) | exact bin_neqI_t (by first | with_reducible assumption | omega)) ?_)
    refine RP.nil ?_
    refine Gives.then_ (qT rfl) ?_
    refine Gives.seq ?_
    refine Gives.region [.p 0, .p 1, .p 2] (by kernel_rfl) ?_
    refine pM rfl rfl ?_
    refine RP.p rfl (op_assign rfl ?_)
    refine pA rfl rfl ?_
    refine RP.nil ?_
    exact Gives.ret0 (RS.two rfl rfl (⟨hF, fun _ => ⟨⟨_, rfl, hr⟩, lo1, wa1, re1, hC⟩, fun e => absurd e hdl⟩))
end Go.Abs
