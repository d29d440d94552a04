/- The sending end of a virtual channel: its small functions. No condition. -/
import Derived.Test.YtkihpcjfhilgcaaGreatU04
namespace Go.Abs
open Go.Proofs
theorem minN {a b : Nat} : (if Int.ofNat b < Int.ofNat a then Int.ofNat b else Int.ofNat a) = Int.ofNat (min a b) := by
  have e1 : ∀ n : Nat, Int.ofNat n = (n : Int) := fun _ => rfl
  rw [e1, e1, e1]
  split <;> omega
theorem maxN {a b : Nat} : (if Int.ofNat b > Int.ofNat a then Int.ofNat b else Int.ofNat a) = Int.ofNat (max a b) := by
  have e1 : ∀ n : Nat, Int.ofNat n = (n : Int) := fun _ => rfl
  rw [e1, e1, e1]
  split <;> omega
theorem RowK.same {h : H} {k n : Nat} {v : AV} {fl : List AV} (r : RowK h k v n fl) : v.same v = true := by
  obtain ⟨_, ⟨rfl, _⟩ | ⟨b, o, m, c, rfl, _⟩⟩ := r
  · rfl
  · simp [AV.same, AV.same0]
abbrev zI (q : Int) : AV := .int .i64 q
def FopL (size : Nat) (u : AV) (a fl fr cr ch : Nat) (to re st now tm rp : Int) : List AV :=
  [nI size, u, nI a, nI fl, nI fr, .bool true, nI cr, nI ch, zI to, zI re, zI st, .snil, zI now, zI tm, zI rp]
def clk (now q : Int) : Int := if q ≤ 1099511627776 then (if q > now then q else now) else now
variable {X : Ext0} {S : Sums} {L : Nat} {h0 : H}
variable {bf size a fl fr cr ch m : Nat} {u : AV} {to re st now tm rp : Int} {us : List AV}
theorem usable39_spec {d : Nat} (hS : SOk S) (hC : Cells h0 bf (FopL size u a fl fr cr ch to re st now tm rp)) :
    CS Tryz.prog X S L (d + 1) 39 [.ptr bf 0] h0 (fun v h' => v = .bool true ∧ h0 = h') := by
  refine CS.of (rs := [.tmp 2]) (hS.none _ (by decide) (by decide)) Tryz.func39 rfl rfl ?_
  refine Gives.seq ?_
  refine Gives.region [.p 0] (by kernel_rfl) ?_
  refine RP.p rfl (op_assign rfl ?_)
  refine RP.nil ?_
  refine Gives.seq ?_
  refine Gives.region [.p 0, .p 1, .p 2, .p 3, .p 4, .p 5, .r 6, .p 7, .p 8] (by kernel_rfl) ?_
  refine pM rfl rfl ?_
  refine RP.p rfl (op_bin (qT rfl) rfl (bin_neq_nil Tryz.underlying45) ?_)
  refine pM rfl rfl ?_
  refine RP.p rfl (OpP.on' rfl rfl rfl (op_move (qT rfl) ?_))
  refine RP.p rfl (OpP.on' rfl rfl rfl (op_nilCheck (qT rfl) ?_))
  refine RP.p rfl (OpP.on' rfl rfl rfl (op_fieldAddr (off := 5) (qT rfl) (by kernel_rfl) ?_))
  refine RP.r rfl (OpR.on' rfl rfl rfl (op_load (qT rfl) (hC.load (by kernel_rfl) rfl) ?_))
  refine RP.p rfl (op_pick_t (qT rfl) (qT rfl) ?_)
  refine pA rfl rfl ?_
  refine RP.nil ?_
  exact Gives.ret0 (RS.one rfl (⟨rfl, rfl⟩))
theorem acked_spec {d : Nat} (hS : SOk S) (hC : Cells h0 bf (FopL size u a fl fr cr ch to re st now tm rp)) :
    CS Tryz.prog X S L (d + 2) 20 [.ptr bf 0] h0 (fun v h' => v = nI a ∧ h0 = h') := by
  refine CS.of (rs := [.tmp 2]) (hS.none _ (by decide) (by decide)) Tryz.func20 rfl rfl ?_
  refine Gives.seq ?_
  refine Gives.region [.p 0] (by kernel_rfl) ?_
  refine RP.p rfl (op_assign (show ev _ _ = some (.int .i64 (.ofNat 0)) from rfl) ?_)
  refine RP.nil ?_
  refine Gives.seq ?_
  refine Gives.seq ?_
  refine Gives.region [.p 0, .e 1 [], .p 2] (by kernel_rfl) ?_
  refine pM rfl rfl ?_
  refine RP.e rfl (op_calls (evs_cons (qT rfl) evs_nil) (by kernel_rfl) (usable39_spec hS hC) ?_)
  rintro v h' ⟨rfl, rfl⟩
  refine RP.p rfl (op_notT (qT rfl) ?_)
  refine RP.nil ?_
  refine Gives.else_ (qT rfl) ?_
  refine Gives.skip ?_
  refine Gives.seq ?_
  refine Gives.region [.p 0, .p 1, .p 2, .p 3, .r 4, .p 5] (by kernel_rfl) ?_
  refine pM rfl rfl ?_
  refine pN rfl rfl ?_
  refine pF (off := 0) rfl rfl (by kernel_rfl) ?_
  refine pF (off := 2) rfl rfl (by kernel_rfl) ?_
  refine pL rfl rfl (hC.load (by kernel_rfl) rfl) ?_
  refine pA rfl rfl ?_
  refine RP.nil ?_
  exact Gives.ret0 (RS.one rfl (⟨rfl, rfl⟩))
theorem queued_spec {d : Nat} (hS : SOk S) (hU : RowK h0 1 u m us) (hC : Cells h0 bf (FopL size u a fl fr cr ch to re st now tm rp)) :
    CS Tryz.prog X S L (d + 2) 21 [.ptr bf 0] h0 (fun v h' => v = nI m ∧ h0 = h') := by
  refine CS.of (rs := [.tmp 2]) (hS.none _ (by decide) (by decide)) Tryz.func21 rfl rfl ?_
  refine Gives.seq ?_
  refine Gives.region [.p 0] (by kernel_rfl) ?_
  refine RP.p rfl (op_assign (show ev _ _ = some (.int .i64 (.ofNat 0)) from rfl) ?_)
  refine RP.nil ?_
  refine Gives.seq ?_
  refine Gives.seq ?_
  refine Gives.region [.p 0, .e 1 [], .p 2] (by kernel_rfl) ?_
  refine pM rfl rfl ?_
  refine RP.e rfl (op_calls (evs_cons (qT rfl) evs_nil) (by kernel_rfl) (usable39_spec hS hC) ?_)
  rintro v h' ⟨rfl, rfl⟩
  refine RP.p rfl (op_notT (qT rfl) ?_)
  refine RP.nil ?_
  refine Gives.else_ (qT rfl) ?_
  refine Gives.skip ?_
  refine Gives.seq ?_
  refine Gives.region [.p 0, .p 1, .p 2, .p 3, .r 4, .p 5, .p 6] (by kernel_rfl) ?_
  refine pM rfl rfl ?_
  refine pN rfl rfl ?_
  refine pF (off := 0) rfl rfl (by kernel_rfl) ?_
  refine pF (off := 1) rfl rfl (by kernel_rfl) ?_
  refine pL rfl rfl (hC.load (by kernel_rfl) rfl) ?_
  refine RP.p rfl (op_len_row (qT rfl) hU Tryz.underlying49 ?_)
  refine pA rfl rfl ?_
  refine RP.nil ?_
  exact Gives.ret0 (RS.one rfl (⟨rfl, rfl⟩))
theorem clock_spec {d : Nat} (hS : SOk S) (hw : WF h0) (q : Int) (hC : Cells h0 bf (FopL size u a fl fr cr ch to re st now tm rp)) :
    CS Tryz.prog X S L (d + 1) 41 [.ptr bf 0, zI q] h0 (fun v h' => v = .tup [] ∧ Cells h' bf (FopL size u a fl fr cr ch to re st (clk now q) tm rp) ∧ Fr (fun c => c = bf) h0 h') := by
  refine CS.of (rs := []) (hS.none _ (by decide) (by decide)) Tryz.func41 rfl rfl ?_
  have hF : Fr (fun c => c = bf) h0 h0 := Fr.refl hw
  by_cases hq : q ≤ Int.ofNat 1099511627776
  · have e : clk now q = if q > now then q else now := if_pos hq
    rw [e]
    refine Gives.seq ?_
    refine Gives.region [.p 0, .p 1] (by kernel_rfl) ?_
    refine pM rfl rfl ?_
    refine RP.p rfl (op_bin (qT rfl) (show ev _ _ = some (.int .i64 (.ofNat 1099511627776)) from rfl) (by first | exact bin_leq_t (by omega) | exact bin_leqI_t (by first | assumption | omega)) ?_)
    refine RP.nil ?_
    refine Gives.then_ (qT rfl) ?_
    refine Gives.region [.p 0, .p 1, .p 2, .p 3, .r 4, .p 5, .p 6, .p 7, .p 8, .e 9 []] (by kernel_rfl) ?_
    refine pM rfl rfl ?_
    refine pM rfl rfl ?_
    refine pN rfl rfl ?_
    refine pF (off := 12) rfl rfl (by kernel_rfl) ?_
    refine pL rfl rfl (hC.load (by kernel_rfl) rfl) ?_
    refine pM rfl rfl ?_
    refine RP.p rfl (op_max (qT rfl) (qT rfl) ?_)
    refine pN rfl rfl ?_
    refine pF (off := 12) rfl rfl (by kernel_rfl) ?_
    refine RP.e rfl (op_storeC (qT rfl) (qT rfl) hw hC (by kernel_rfl) (by first | rfl | assumption) (Nat.le_of_ble_eq_true rfl) (fun h1 hC1 hF1 hn => ?_))
    replace hC := hC1
    replace hF := hF.then hF1 (by intro c hc; first | exact .inl hc | exact .inl (.inl hc) | exact .inl (.inr hc) | exact hc.elim | (subst hc; right; omega))
    replace hw := hF1.wf
    clear hF1 hn hC1
    refine RP.nil ?_
    exact ⟨[], rfl, ⟨rfl, hC, hF⟩⟩
  · have e : clk now q = now := if_neg hq
    rw [e]
    refine Gives.seq ?_
    refine Gives.region [.p 0, .p 1] (by kernel_rfl) ?_
    refine pM rfl rfl ?_
    refine RP.p rfl (op_bin (qT rfl) (show ev _ _ = some (.int .i64 (.ofNat 1099511627776)) from rfl) (by first | exact bin_leq_f (by omega) | exact bin_leqI_f (by first | assumption | omega)) ?_)
    refine RP.nil ?_
    refine Gives.else_ (qT rfl) ?_
    refine Gives.skip ?_
    exact ⟨[], rfl, ⟨rfl, hC, hF⟩⟩
theorem waitT_spec {d : Nat} (hS : SOk S) (hU : RowK h0 1 u m us) (hC : Cells h0 bf (FopL size u a fl fr cr ch to re st now tm rp)) (h1 : fl < size) (h2 : fl < m) :
    CS Tryz.prog X S L (d + 1) 42 [.ptr bf 0] h0 (fun v h' => v = .bool true ∧ h0 = h') := by
  refine CS.of (rs := [.tmp 2]) (hS.none _ (by decide) (by decide)) Tryz.func42 rfl rfl ?_
  refine Gives.seq ?_
  refine Gives.region [.p 0] (by kernel_rfl) ?_
  refine RP.p rfl (op_assign rfl ?_)
  refine RP.nil ?_
  refine Gives.seq ?_
  refine Gives.region [.p 0, .p 1, .p 2, .r 3, .p 4, .p 5, .p 6, .r 7, .p 8, .p 9, .p 10, .r 11, .p 12, .p 13, .p 14, .p 15] (by kernel_rfl) ?_
  refine pM rfl rfl ?_
  refine pN rfl rfl ?_
  refine pF (off := 3) rfl rfl (by kernel_rfl) ?_
  refine pL rfl rfl (hC.load (by kernel_rfl) rfl) ?_
  refine pM rfl rfl ?_
  refine pN rfl rfl ?_
  refine pF (off := 0) rfl rfl (by kernel_rfl) ?_
  refine pL rfl rfl (hC.load (by kernel_rfl) rfl) ?_
  refine pM rfl rfl ?_
  refine pN rfl rfl ?_
  refine pF (off := 1) rfl rfl (by kernel_rfl) ?_
  refine pL rfl rfl (hC.load (by kernel_rfl) rfl) ?_
  refine RP.p rfl (op_len_row (qT rfl) hU Tryz.underlying49 ?_)
  refine RP.p rfl (op_min (qT rfl) (qT rfl) ?_)
  rw [minN]
  refine RP.p rfl (op_bin (qT rfl) (qT rfl) (by first | exact bin_lss_t (by omega) | exact bin_lssI_t (by first | assumption | omega)) ?_)
  refine pA rfl rfl ?_
  refine RP.nil ?_
  exact Gives.ret0 (RS.one rfl (⟨rfl, rfl⟩))
theorem waitF_spec {d : Nat} (hS : SOk S) (hU : RowK h0 1 u m us) (hC : Cells h0 bf (FopL size u a fl fr cr ch to re st now tm rp)) (h1 : ¬ (fl < size ∧ fl < m)) :
    CS Tryz.prog X S L (d + 1) 42 [.ptr bf 0] h0 (fun v h' => v = .bool false ∧ h0 = h') := by
  refine CS.of (rs := [.tmp 2]) (hS.none _ (by decide) (by decide)) Tryz.func42 rfl rfl ?_
  refine Gives.seq ?_
  refine Gives.region [.p 0] (by kernel_rfl) ?_
  refine RP.p rfl (op_assign rfl ?_)
  refine RP.nil ?_
  refine Gives.seq ?_
  refine Gives.region [.p 0, .p 1, .p 2, .r 3, .p 4, .p 5, .p 6, .r 7, .p 8, .p 9, .p 10, .r 11, .p 12, .p 13, .p 14, .p 15] (by kernel_rfl) ?_
  refine pM rfl rfl ?_
  refine pN rfl rfl ?_
  refine pF (off := 3) rfl rfl (by kernel_rfl) ?_
  refine pL rfl rfl (hC.load (by kernel_rfl) rfl) ?_
  refine pM rfl rfl ?_
  refine pN rfl rfl ?_
  refine pF (off := 0) rfl rfl (by kernel_rfl) ?_
  refine pL rfl rfl (hC.load (by kernel_rfl) rfl) ?_
  refine pM rfl rfl ?_
  refine pN rfl rfl ?_
  refine pF (off := 1) rfl rfl (by kernel_rfl) ?_
  refine pL rfl rfl (hC.load (by kernel_rfl) rfl) ?_
  refine RP.p rfl (op_len_row (qT rfl) hU Tryz.underlying49 ?_)
  refine RP.p rfl (op_min (qT rfl) (qT rfl) ?_)
  rw [minN]
  refine RP.p rfl (op_bin (qT rfl) (qT rfl) (by first | exact bin_lss_f (by omega) | exact bin_lssI_f (by first | assumption | omega)) ?_)
  refine pA rfl rfl ?_
  refine RP.nil ?_
  exact Gives.ret0 (RS.one rfl (⟨rfl, rfl⟩))
theorem repeat_spec {d : Nat} (hS : SOk S) (hw : WF h0) (hC : Cells h0 bf (FopL size u a fl fr cr ch to re st now tm rp)) :
    CS Tryz.prog X S L (d + 1) 43 [.ptr bf 0] h0 (fun v h' => v = .tup [] ∧ Cells h' bf (FopL size u a 0 fr cr ch to re st now tm rp) ∧ Fr (fun c => c = bf) h0 h') := by
  refine CS.of (rs := []) (hS.none _ (by decide) (by decide)) Tryz.func43 rfl rfl ?_
  have hF : Fr (fun c => c = bf) h0 h0 := Fr.refl hw
  refine Gives.region [.p 0, .p 1, .p 2, .e 3 []] (by kernel_rfl) ?_
  refine pM rfl rfl ?_
  refine pN rfl rfl ?_
  refine pF (off := 3) rfl rfl (by kernel_rfl) ?_
  refine RP.e rfl (op_storeC (qT rfl) (show ev _ _ = some (.int .i64 (.ofNat 0)) from rfl) hw hC (by kernel_rfl) (by first | rfl | assumption) (Nat.le_of_ble_eq_true rfl) (fun h1 hC1 hF1 hn => ?_))
  replace hC := hC1
  replace hF := hF.then hF1 (by intro c hc; first | exact .inl hc | exact .inl (.inl hc) | exact .inl (.inr hc) | exact hc.elim | (subst hc; right; omega))
  replace hw := hF1.wf
  clear hF1 hn hC1
  refine RP.nil ?_
  exact ⟨[], rfl, ⟨rfl, hC, hF⟩⟩
theorem take44_spec {d : Nat} (hS : SOk S) (hw : WF h0) {dv : AV} {l : List Nat} (hU : RowK h0 1 u m us) (hC : Cells h0 bf (FopL size u a fl fr cr ch to re st now tm rp)) (h1 : fl < m) (hg : us[fl]? = some dv) (hI : Img h0 dv l) (hl1 : 1 ≤ l.length) (hl2 : l.length ≤ 1017) (hlt : a + fl < 1000000000000) :
    CS Tryz.prog X S L (d + 2) 44 [.ptr bf 0] h0 (fun v h' => (∃ v', v = .tup [nI ((a + fl) % 256), v'] ∧ Dt h' h0.next v' l) ∧ Cells h' bf (FopL size u a (fl + 1) (max fr (fl + 1)) cr ch to re st now tm rp) ∧ Fr (fun c => c = bf) h0 h') := by
  refine CS.of (rs := [.tmp 2, .tmp 3]) (hS.none _ (by decide) (by decide)) Tryz.func44 rfl rfl ?_
  have hF : Fr (fun c => c = bf) h0 h0 := Fr.refl hw
  have hbl := hC.lt hw
  have hsame := hU.same
  refine Gives.seq ?_
  refine Gives.region [.p 0, .p 1] (by kernel_rfl) ?_
  refine RP.p rfl (op_assign (show ev _ _ = some (.int .i64 (.ofNat 0)) from rfl) ?_)
  refine RP.p rfl (op_assign rfl ?_)
  refine RP.nil ?_
  refine Gives.seq ?_
  refine Gives.region [.p 0, .p 1, .p 2, .r 3, .p 4, .p 5, .p 6, .r 7, .p 8, .p 9, .p 10, .p 11, .p 12, .r 13, .p 14, .p 15, .p 16, .r 17, .p 18, .r 19, .e 20 [3, 7], .p 21, .p 22] (by kernel_rfl) ?_
  refine pM rfl rfl ?_
  refine pN rfl rfl ?_
  refine pF (off := 2) rfl rfl (by kernel_rfl) ?_
  refine pL rfl rfl (hC.load (by kernel_rfl) rfl) ?_
  refine pM rfl rfl ?_
  refine pN rfl rfl ?_
  refine pF (off := 3) rfl rfl (by kernel_rfl) ?_
  refine pL rfl rfl (hC.load (by kernel_rfl) rfl) ?_
  refine RP.p rfl (op_bin (qT rfl) (qT rfl) (by first | exact bin_add (by have e1 : topK .i64 = 9223372036854775808 := rfl; have e2 : topK .u32 = 4294967296 := rfl; have e3 : topK .u64 = 18446744073709551616 := rfl; have e4 : topK .u8 = 256 := rfl; have e5 : topK .u16 = 65536 := rfl; omega) | exact bin_addI) ?_)
  refine RP.p rfl (op_bin (qT rfl) (show ev _ _ = some (.int .i64 (.ofNat 256)) from rfl) (bin_rem (by omega)) ?_)
  refine pM rfl rfl ?_
  refine pN rfl rfl ?_
  refine pF (off := 1) rfl rfl (by kernel_rfl) ?_
  refine pL rfl rfl (hC.load (by kernel_rfl) rfl) ?_
  refine pM rfl rfl ?_
  refine pN rfl rfl ?_
  refine pF (off := 3) rfl rfl (by kernel_rfl) ?_
  refine pL rfl rfl (hC.load (by kernel_rfl) rfl) ?_
  refine RP.p rfl (op_index_row (qT rfl) hU (qT rfl) Tryz.underlying49 (by kernel_rfl) h1 (fun bI oI hld _ => ?_))
  refine pL rfl rfl (show loadA _ _ 26 bI oI = some dv from hld 0 dv (by decide) (by rw [Nat.mul_one, Nat.add_zero]; exact hg) 26 (by kernel_rfl)) ?_
  refine RP.e rfl (op_callsR (evs_cons (qT rfl) evs_nil) (by kernel_rfl) (clone40_spec hS hw hI hl1 hl2) ?_ ?_)
  · rintro v h1 ⟨hD, hF1⟩
    simp only [List.all_cons, List.all_nil, Bool.and_true, Bool.and_eq_true]
    exact ⟨chkR_load rfl (qT rfl) (Cells.load (hC.fr hw hF1 (fun e => e)) (by kernel_rfl) rfl) rfl (by first | with_reducible exact hsame | exact same_int _ _ | simp [AV.same, AV.same0]), chkR_load rfl (qT rfl) (Cells.load (hC.fr hw hF1 (fun e => e)) (by kernel_rfl) rfl) rfl (by first | with_reducible exact hsame | exact same_int _ _ | simp [AV.same, AV.same0])⟩
  rintro v h1 ⟨hD, hF1⟩
  have hDb : ∀ b, blkOf v b → ¬ b = bf := fun b hb e => by { have := (hD.2 b hb).1; omega }
  replace hC := hC.fr hw hF1 (fun e => e)
  replace hF := hF.then hF1 (by intro c hc; first | exact .inl hc | exact .inl (.inl hc) | exact .inl (.inr hc) | exact hc.elim | (subst hc; right; omega))
  replace hw := hF1.wf
  refine pA rfl rfl ?_
  refine pA rfl rfl ?_
  refine RP.nil ?_
  refine Gives.seq ?_
  refine Gives.region [.p 0, .p 1, .p 2, .r 3, .p 4, .p 5, .p 6, .e 7 []] (by kernel_rfl) ?_
  refine pM rfl rfl ?_
  refine pN rfl rfl ?_
  refine pF (off := 3) rfl rfl (by kernel_rfl) ?_
  refine pL rfl rfl (hC.load (by kernel_rfl) rfl) ?_
  refine RP.p rfl (op_bin (qT rfl) (show ev _ _ = some (.int .i64 (.ofNat 1)) from rfl) (by first | exact bin_add (by have e1 : topK .i64 = 9223372036854775808 := rfl; have e2 : topK .u32 = 4294967296 := rfl; have e3 : topK .u64 = 18446744073709551616 := rfl; have e4 : topK .u8 = 256 := rfl; have e5 : topK .u16 = 65536 := rfl; omega) | exact bin_addI) ?_)
  refine pN rfl rfl ?_
  refine pF (off := 3) rfl rfl (by kernel_rfl) ?_
  refine RP.e rfl (op_storeC (qT rfl) (qT rfl) hw hC (by kernel_rfl) (by first | rfl | assumption) (Nat.le_of_ble_eq_true rfl) (fun h2 hC1 hF1 hn => ?_))
  replace hD := hD.fr hw hF1 hDb
  replace hC := hC1
  replace hF := hF.then hF1 (by intro c hc; first | exact .inl hc | exact .inl (.inl hc) | exact .inl (.inr hc) | exact hc.elim | (subst hc; right; omega))
  replace hw := hF1.wf
  clear hF1 hn hC1
  refine RP.nil ?_
  refine Gives.seq ?_
  refine Gives.region [.p 0, .p 1, .p 2, .p 3, .r 4, .p 5, .p 6, .p 7, .r 8, .p 9, .p 10, .p 11, .e 12 []] (by kernel_rfl) ?_
  refine pM rfl rfl ?_
  refine pM rfl rfl ?_
  refine pN rfl rfl ?_
  refine pF (off := 4) rfl rfl (by kernel_rfl) ?_
  refine pL rfl rfl (hC.load (by kernel_rfl) rfl) ?_
  refine pM rfl rfl ?_
  refine pN rfl rfl ?_
  refine pF (off := 3) rfl rfl (by kernel_rfl) ?_
  refine pL rfl rfl (hC.load (by kernel_rfl) rfl) ?_
  refine RP.p rfl (op_max (qT rfl) (qT rfl) ?_)
  rw [maxN]
  refine pN rfl rfl ?_
  refine pF (off := 4) rfl rfl (by kernel_rfl) ?_
  refine RP.e rfl (op_storeC (qT rfl) (qT rfl) hw hC (by kernel_rfl) (by first | rfl | assumption) (Nat.le_of_ble_eq_true rfl) (fun h3 hC1 hF1 hn => ?_))
  replace hD := hD.fr hw hF1 hDb
  replace hC := hC1
  replace hF := hF.then hF1 (by intro c hc; first | exact .inl hc | exact .inl (.inl hc) | exact .inl (.inr hc) | exact hc.elim | (subst hc; right; omega))
  replace hw := hF1.wf
  clear hF1 hn hC1
  refine RP.nil ?_
  refine Gives.seq ?_
  refine Gives.region [.p 0, .p 1, .p 2, .p 3] (by kernel_rfl) ?_
  refine pM rfl rfl ?_
  refine pM rfl rfl ?_
  refine pA rfl rfl ?_
  refine pA rfl rfl ?_
  refine RP.nil ?_
  exact Gives.ret0 (RS.two rfl rfl (⟨⟨_, rfl, hD⟩, hC, hF⟩))
end Go.Abs
namespace Go.Abs
open Go.Proofs
section
variable {P : Program} {X : Ext0} {call : CallA} {L n : Nat} {F : Fm} {h : H} {K : Fm → H → Prop} {ops : Array Oper}
variable {ty : TypeId} {pos : String} {af : Array Edge} {chk : List Nat} {d : Nat} {v : AV} {t : TypeId} {x y : Operand} {k : IntKind}
theorem RowK.one {k n : Nat} {v : AV} {fl : List AV} (r : RowK h k v n fl) : v.one = true := by
  obtain ⟨_, ⟨rfl, _⟩ | ⟨b, o, m, c, rfl, _⟩⟩ := r <;> rfl
theorem op_slice_row {k n j : Nat} {fl : List AV} {e : TypeId} {q : IntKind} {lo : Option Operand} (hx : ev F x = some v) (hr : RowK h k v n fl) (hl : evo F lo = some (some (.int q (.ofNat j)))) (hu : P.underlying t = some (.slice e)) (hs : szo P e = some k) (hj : j ≤ n)
    (hk : ∀ v', RowK h k v' (n - j) (fl.drop (j * k)) → (∀ b, blkOf v' b → blkOf v b) → v'.one = true → K (F.put d v') h) : OpP P ops ⟨some d, .slice t x lo none none, ty, pos, af, none⟩ F h K := by
  have hn : evo F none = some none := rfl
  rcases hr with ⟨r0, ⟨rfl, rfl⟩ | ⟨b, o, m, c, rfl, h1, h2, h3⟩⟩
  · obtain rfl : j = 0 := by omega
    have hfl : fl = [] := List.eq_nil_of_length_eq_zero (by simpa using r0)
    subst hfl
    refine .val (v := .snil) (by simp only [pop, hx, hl, hn, sliceA, hu, bnds_lo (len := 0) (cap := 0) (p := 0) (k := q) (Nat.le_refl _), hs]; rfl) (hk _ ⟨by simp, .inl ⟨rfl, rfl⟩⟩ (fun b hb => hb) rfl)
  · refine op_slice (lo' := some (.int q (.ofNat j))) (hi' := none) hx hl hn hu hs (bnds_lo hj) (Nat.le_refl _) (hk _ ⟨?_, .inr ⟨b, o + j * k, m, c, rfl, h1, ?_, fun i hi => ?_⟩⟩ (fun b hb => hb) rfl)
    · rw [List.length_drop, r0, Nat.sub_mul]
    · rw [Nat.sub_mul]; have := Nat.mul_le_mul_right k hj; omega
    · rw [Nat.sub_mul] at hi
      rw [show o + j * k + i = o + (j * k + i) by omega, h3 _ (by omega), List.getElem?_drop]
theorem op_callv {S : Sums} {dd : Nat} {g : FuncId} {x : Operand} {args : Array Operand} {ts : Array TypeId} {vs : List AV} {Q : AV → H → Prop} (hx : ev F x = some (.func (.func g) [] [])) (ha : evs F args.toList = some vs) (hg : okFn P g = true) (hc : CS P X S L dd g vs h Q) (hK : ∀ v h', Q v h' → K (F.put d v) h') :
    OpE P X (callA P X S L dd) ops [] ⟨some d, .call ⟨.value x, args, ts⟩, ty, pos, af, none⟩ F h K := by
  obtain ⟨v, h', e, q⟩ := hc
  refine OpE.done (v := v) (h' := h') ?_ rfl (hK v h' q)
  simp only [effA, eop, hx, ha, enterA, hg, cond_true, List.nil_append, List.append_nil, e]
theorem Img.slice {l : List Nat} (r : Img h v l) (h1 : 1 ≤ l.length) : ∃ b o cp ex, v = .slice b o l.length cp 1 ex := by
  rcases r with ⟨rfl, rfl⟩ | ⟨b, o, cp, ex, rfl, _⟩
  · exact absurd h1 (by decide)
  · exact ⟨b, o, cp, ex, rfl⟩
theorem info26 : ∃ i, Tryz.prog.info? 26 = some i ∧ i.size = 1 ∧ i.bytes = 24 := by
  have h : (Tryz.prog.info? 26).map (fun i => (i.size, i.bytes)) = some (1, 24) := by kernel_rfl
  cases hi : Tryz.prog.info? 26 with
  | none => rw [hi] at h; cases h
  | some i => rw [hi] at h; simp only [Option.map_some, Option.some.injEq, Prod.mk.injEq] at h; exact ⟨i, rfl, h⟩
end
theorem max0 {a b : Nat} (ha : a < 1000000000000) (hb : b < 1000000000000) : (if IntKind.i64.wrap (Int.ofNat a - Int.ofNat b) > Int.ofNat 0 then IntKind.i64.wrap (Int.ofNat a - Int.ofNat b) else Int.ofNat 0) = Int.ofNat (a - b) := by
  have e1 : ∀ n : Nat, Int.ofNat n = (n : Int) := fun _ => rfl
  have e2 : IntKind.i64.wrap (Int.ofNat a - Int.ofNat b) = (a : Int) - (b : Int) := by
    rw [e1, e1]; simp [IntKind.wrap, IntKind.bits, IntKind.signed]; omega
  rw [e2, e1, e1]
  split <;> omega
variable {X : Ext0} {S : Sums} {L : Nat} {h0 : H}
variable {bf size a fl fr cr ch m : Nat} {u : AV} {to re st now tm rp : Int} {us : List AV}
theorem release_spec {d : Nat} (hS : SOk S) (hw : WF h0) {dd : Nat} (hU : RowK h0 1 u m us) (hbu : ∀ b, blkOf u b → ¬ b = bf) (hC : Cells h0 bf (FopL size u a fl fr cr ch to re st now tm rp)) (hd : dd ≤ m) (hdf : dd ≤ fr) (hfr : fr ≤ 127) (hfl : fl ≤ 127) (ha : a + dd < 1000000000000) :
    CS Tryz.prog X S L (d + 1) 53 [.ptr bf 0, nI dd] h0 (fun v h' => v = .tup [] ∧ (∃ u', RowK h' 1 u' (m - dd) (us.drop dd) ∧ (∀ b, blkOf u' b → blkOf u b) ∧ Cells h' bf (FopL size u' (a + dd) (fl - dd) (fr - dd) cr ch to re st now tm rp)) ∧ Fr (fun c => c = bf) h0 h') := by
  refine CS.of (rs := []) (hS.none _ (by decide) (by decide)) Tryz.func53 rfl rfl ?_
  have hF : Fr (fun c => c = bf) h0 h0 := Fr.refl hw
  refine Gives.seq ?_
  refine Gives.region [.p 0, .p 1, .p 2, .p 3, .r 4, .p 5, .p 6, .p 7, .p 8, .e 9 []] (by kernel_rfl) ?_
  refine pM rfl rfl ?_
  refine pM rfl rfl ?_
  refine pN rfl rfl ?_
  refine pF (off := 1) rfl rfl (by kernel_rfl) ?_
  refine pL rfl rfl (hC.load (by kernel_rfl) rfl) ?_
  refine pM rfl rfl ?_
  refine RP.p rfl (op_slice_row (j := dd) (qT rfl) hU (evo_some (qT rfl)) Tryz.underlying49 (by kernel_rfl) hd (fun u' hU' hsub hone => ?_))
  have hbu' : ∀ b, blkOf u' b → ¬ b = bf := fun b hb => hbu b (hsub b hb)
  refine pN rfl rfl ?_
  refine pF (off := 1) rfl rfl (by kernel_rfl) ?_
  refine RP.e rfl (op_storeC (qT rfl) (qT rfl) hw hC (by kernel_rfl) (by first | rfl | assumption) (Nat.le_of_ble_eq_true rfl) (fun h1 hC1 hF1 hn => ?_))
  replace hU' := hU'.fr hw hF1 hbu'
  replace hC := hC1
  replace hF := hF.then hF1 (by intro c hc; first | exact .inl hc | exact .inl (.inl hc) | exact .inl (.inr hc) | exact hc.elim | (subst hc; right; omega))
  replace hw := hF1.wf
  clear hF1 hn hC1
  refine RP.nil ?_
  refine Gives.seq ?_
  refine Gives.region [.p 0, .p 1, .p 2, .r 3, .p 4, .p 5, .p 6, .p 7, .e 8 []] (by kernel_rfl) ?_
  refine pM rfl rfl ?_
  refine pN rfl rfl ?_
  refine pF (off := 2) rfl rfl (by kernel_rfl) ?_
  refine pL rfl rfl (hC.load (by kernel_rfl) rfl) ?_
  refine pM rfl rfl ?_
  refine RP.p rfl (op_bin (qT rfl) (qT rfl) (by first | exact bin_add (by have e1 : topK .i64 = 9223372036854775808 := rfl; have e2 : topK .u32 = 4294967296 := rfl; have e3 : topK .u64 = 18446744073709551616 := rfl; have e4 : topK .u8 = 256 := rfl; have e5 : topK .u16 = 65536 := rfl; omega) | exact bin_addI) ?_)
  refine pN rfl rfl ?_
  refine pF (off := 2) rfl rfl (by kernel_rfl) ?_
  refine RP.e rfl (op_storeC (qT rfl) (qT rfl) hw hC (by kernel_rfl) (by first | rfl | assumption) (Nat.le_of_ble_eq_true rfl) (fun h2 hC1 hF1 hn => ?_))
  replace hU' := hU'.fr hw hF1 hbu'
  replace hC := hC1
  replace hF := hF.then hF1 (by intro c hc; first | exact .inl hc | exact .inl (.inl hc) | exact .inl (.inr hc) | exact hc.elim | (subst hc; right; omega))
  replace hw := hF1.wf
  clear hF1 hn hC1
  refine RP.nil ?_
  refine Gives.seq ?_
  refine Gives.region [.p 0, .p 1, .p 2, .r 3, .p 4, .p 5, .p 6, .p 7, .e 8 []] (by kernel_rfl) ?_
  refine pM rfl rfl ?_
  refine pN rfl rfl ?_
  refine pF (off := 4) rfl rfl (by kernel_rfl) ?_
  refine pL rfl rfl (hC.load (by kernel_rfl) rfl) ?_
  refine pM rfl rfl ?_
  refine RP.p rfl (op_bin (qT rfl) (qT rfl) (by first | exact bin_sub (by omega) (by have e1 : topK .i64 = 9223372036854775808 := rfl; have e2 : topK .u32 = 4294967296 := rfl; have e3 : topK .u64 = 18446744073709551616 := rfl; have e4 : topK .u8 = 256 := rfl; have e5 : topK .u16 = 65536 := rfl; omega) | exact bin_subI) ?_)
  refine pN rfl rfl ?_
  refine pF (off := 4) rfl rfl (by kernel_rfl) ?_
  refine RP.e rfl (op_storeC (qT rfl) (qT rfl) hw hC (by kernel_rfl) (by first | rfl | assumption) (Nat.le_of_ble_eq_true rfl) (fun h3 hC1 hF1 hn => ?_))
  replace hU' := hU'.fr hw hF1 hbu'
  replace hC := hC1
  replace hF := hF.then hF1 (by intro c hc; first | exact .inl hc | exact .inl (.inl hc) | exact .inl (.inr hc) | exact hc.elim | (subst hc; right; omega))
  replace hw := hF1.wf
  clear hF1 hn hC1
  refine RP.nil ?_
  refine Gives.region [.p 0, .p 1, .p 2, .p 3, .r 4, .p 5, .p 6, .p 7, .p 8, .p 9, .e 10 []] (by kernel_rfl) ?_
  refine pM rfl rfl ?_
  refine pM rfl rfl ?_
  refine pN rfl rfl ?_
  refine pF (off := 3) rfl rfl (by kernel_rfl) ?_
  refine pL rfl rfl (hC.load (by kernel_rfl) rfl) ?_
  refine pM rfl rfl ?_
  refine RP.p rfl (op_bin (qT rfl) (qT rfl) bin_subI ?_)
  refine RP.p rfl (op_max (show ev _ _ = some (.int .i64 (.ofNat 0)) from rfl) (qT rfl) ?_)
  rw [max0 (by omega) (by omega)]
  refine pN rfl rfl ?_
  refine pF (off := 3) rfl rfl (by kernel_rfl) ?_
  refine RP.e rfl (op_storeC (qT rfl) (qT rfl) hw hC (by kernel_rfl) (by first | rfl | assumption) (Nat.le_of_ble_eq_true rfl) (fun h4 hC1 hF1 hn => ?_))
  replace hU' := hU'.fr hw hF1 hbu'
  replace hC := hC1
  replace hF := hF.then hF1 (by intro c hc; first | exact .inl hc | exact .inl (.inl hc) | exact .inl (.inr hc) | exact hc.elim | (subst hc; right; omega))
  replace hw := hF1.wf
  clear hF1 hn hC1
  refine RP.nil ?_
  exact ⟨[], rfl, ⟨rfl, ⟨_, by rw [Nat.mul_one] at hU'; exact hU', hsub, hC⟩, hF⟩⟩
def SendPost (h0 : H) (bf size a fl fr cr ch m : Nat) (u : AV) (to re st now tm rp : Int) (us : List AV) (l : List Nat) (v : AV) (h' : H) : Prop :=
  ∃ r : Nat, v = nI r ∧ (r ≠ 0 → h0 = h') ∧ (r = 0 → 1 ≤ l.length ∧ l.length ≤ 1017 ∧ m < 256 ∧ ∃ u' v', RowK h' 1 u' (m + 1) (us ++ [v']) ∧ Dt h' h0.next v' l ∧ (∀ b, blkOf u' b → h0.next ≤ b ∧ b < h'.next) ∧ (∀ b, blkOf u' b → ¬ blkOf v' b) ∧
    Cells h' bf (FopL size u' a fl fr cr ch to re st now tm rp) ∧ Fr (fun c => c = bf ∨ blkOf u c) h0 h')
theorem send_spec {d : Nat} (hS : SOk S) (hw : WF h0) {dv : AV} {l : List Nat} (hU : RowK h0 1 u m us) (hbu : ¬ blkOf u bf) (hC : Cells h0 bf (FopL size u a fl fr cr ch to re st now tm rp)) (hI : Img h0 dv l) :
    CS Tryz.prog X S L (d + 2) 15 [.ptr bf 0, dv] h0 (SendPost h0 bf size a fl fr cr ch m u to re st now tm rp us l) := by
  refine CS.of (rs := [.tmp 4]) (hS.none _ (by decide) (by decide)) Tryz.func15 rfl rfl ?_
  have hF : Fr (fun c => c = bf ∨ blkOf u c) h0 h0 := Fr.refl hw
  have hw0 := hw
  have hbl := hC.lt hw
  have hsame := hU.same
  obtain ⟨i26, hi26, hs26, hb26⟩ := info26
  by_cases h1 : l.length < 1
  ·
    refine Gives.seq ?_
    refine Gives.region [.p 0] (by kernel_rfl) ?_
    refine RP.p rfl (op_assign (show ev _ _ = some (.int .i64 (.ofNat 0)) from rfl) ?_)
    refine RP.nil ?_
    refine Gives.seq ?_
    refine Gives.block ?_
    refine Gives.seq ?_
    refine Gives.region [.p 0, .e 1 [], .p 2, .p 3] (by kernel_rfl) ?_
    refine pM rfl rfl ?_
    refine RP.e rfl (op_calls (evs_cons (qT rfl) evs_nil) (by kernel_rfl) (usable39_spec hS hC) ?_)
    rintro v h' ⟨rfl, rfl⟩
    refine RP.p rfl (op_notT (qT rfl) ?_)
    refine pA rfl rfl ?_
    refine RP.nil ?_
    refine Gives.else_ (qT rfl) ?_
    refine Gives.seq ?_
    refine Gives.region [.p 0, .p 1, .p 2, .p 3, .p 4, .p 5, .p 6, .p 7, .p 8] (by kernel_rfl) ?_
    refine pM rfl rfl ?_
    refine RP.p rfl (op_len_img (qT rfl) hI Tryz.underlying26 ?_)
    refine RP.p rfl (op_bin (qT rfl) (show ev _ _ = some (.int .i64 (.ofNat 1)) from rfl) (by first | exact bin_lss_t (by omega) | exact bin_lssI_t (by first | with_reducible assumption | omega)) ?_)
    refine pM rfl rfl ?_
    refine RP.p rfl (OpP.offT rfl rfl rfl ?_)
    refine RP.p rfl (OpP.offT rfl rfl rfl ?_)
    refine RP.p rfl (OpP.offT rfl rfl rfl ?_)
    refine RP.p rfl (op_pick_t (qT rfl) rfl ?_)
    refine pA rfl rfl ?_
    refine RP.nil ?_
    refine Gives.then_ (qT rfl) ?_
    refine Gives.seq ?_
    refine Gives.region [.p 0] (by kernel_rfl) ?_
    refine RP.p rfl (op_assign (show ev _ _ = some (.int .i64 (.ofNat 1)) from rfl) ?_)
    refine RP.nil ?_
    exact Gives.ret1 (RS.one rfl (⟨1, rfl, fun _ => rfl, fun e => by cases e⟩))
  · by_cases h2 : 1017 < l.length
    ·
      refine Gives.seq ?_
      refine Gives.region [.p 0] (by kernel_rfl) ?_
      refine RP.p rfl (op_assign (show ev _ _ = some (.int .i64 (.ofNat 0)) from rfl) ?_)
      refine RP.nil ?_
      refine Gives.seq ?_
      refine Gives.block ?_
      refine Gives.seq ?_
      refine Gives.region [.p 0, .e 1 [], .p 2, .p 3] (by kernel_rfl) ?_
      refine pM rfl rfl ?_
      refine RP.e rfl (op_calls (evs_cons (qT rfl) evs_nil) (by kernel_rfl) (usable39_spec hS hC) ?_)
      rintro v h' ⟨rfl, rfl⟩
      refine RP.p rfl (op_notT (qT rfl) ?_)
      refine pA rfl rfl ?_
      refine RP.nil ?_
      refine Gives.else_ (qT rfl) ?_
      refine Gives.seq ?_
      refine Gives.region [.p 0, .p 1, .p 2, .p 3, .p 4, .p 5, .p 6, .p 7, .p 8] (by kernel_rfl) ?_
      refine pM rfl rfl ?_
      refine RP.p rfl (op_len_img (qT rfl) hI Tryz.underlying26 ?_)
      refine RP.p rfl (op_bin (qT rfl) (show ev _ _ = some (.int .i64 (.ofNat 1)) from rfl) (by first | exact bin_lss_f (by omega) | exact bin_lssI_f (by first | with_reducible assumption | omega)) ?_)
      refine pM rfl rfl ?_
      refine RP.p rfl (OpP.on' rfl rfl rfl (op_move (qT rfl) ?_))
      refine RP.p rfl (OpP.on' rfl rfl rfl (op_len_img (qT rfl) hI Tryz.underlying26 ?_))
      refine RP.p rfl (OpP.on' rfl rfl rfl (op_bin (qT rfl) (show ev _ _ = some (.int .i64 (.ofNat 1017)) from rfl) (by first | exact bin_gtr_t (by omega) | exact bin_gtrI_t (by first | with_reducible assumption | omega)) ?_))
      refine RP.p rfl (op_pick_f (qT rfl) (qT rfl) ?_)
      refine pA rfl rfl ?_
      refine RP.nil ?_
      refine Gives.then_ (qT rfl) ?_
      refine Gives.seq ?_
      refine Gives.region [.p 0] (by kernel_rfl) ?_
      refine RP.p rfl (op_assign (show ev _ _ = some (.int .i64 (.ofNat 1)) from rfl) ?_)
      refine RP.nil ?_
      exact Gives.ret1 (RS.one rfl (⟨1, rfl, fun _ => rfl, fun e => by cases e⟩))
    · by_cases h3 : 256 ≤ m
      ·
        refine Gives.seq ?_
        refine Gives.region [.p 0] (by kernel_rfl) ?_
        refine RP.p rfl (op_assign (show ev _ _ = some (.int .i64 (.ofNat 0)) from rfl) ?_)
        refine RP.nil ?_
        refine Gives.seq ?_
        refine Gives.block ?_
        refine Gives.seq ?_
        refine Gives.region [.p 0, .e 1 [], .p 2, .p 3] (by kernel_rfl) ?_
        refine pM rfl rfl ?_
        refine RP.e rfl (op_calls (evs_cons (qT rfl) evs_nil) (by kernel_rfl) (usable39_spec hS hC) ?_)
        rintro v h' ⟨rfl, rfl⟩
        refine RP.p rfl (op_notT (qT rfl) ?_)
        refine pA rfl rfl ?_
        refine RP.nil ?_
        refine Gives.else_ (qT rfl) ?_
        refine Gives.seq ?_
        refine Gives.region [.p 0, .p 1, .p 2, .p 3, .p 4, .p 5, .p 6, .p 7, .p 8] (by kernel_rfl) ?_
        refine pM rfl rfl ?_
        refine RP.p rfl (op_len_img (qT rfl) hI Tryz.underlying26 ?_)
        refine RP.p rfl (op_bin (qT rfl) (show ev _ _ = some (.int .i64 (.ofNat 1)) from rfl) (by first | exact bin_lss_f (by omega) | exact bin_lssI_f (by first | with_reducible assumption | omega)) ?_)
        refine pM rfl rfl ?_
        refine RP.p rfl (OpP.on' rfl rfl rfl (op_move (qT rfl) ?_))
        refine RP.p rfl (OpP.on' rfl rfl rfl (op_len_img (qT rfl) hI Tryz.underlying26 ?_))
        refine RP.p rfl (OpP.on' rfl rfl rfl (op_bin (qT rfl) (show ev _ _ = some (.int .i64 (.ofNat 1017)) from rfl) (by first | exact bin_gtr_f (by omega) | exact bin_gtrI_f (by first | with_reducible assumption | omega)) ?_))
        refine RP.p rfl (op_pick_f (qT rfl) (qT rfl) ?_)
        refine pA rfl rfl ?_
        refine RP.nil ?_
        refine Gives.else_ (qT rfl) ?_
        refine Gives.seq ?_
        refine Gives.region [.p 0, .p 1, .p 2, .p 3, .r 4, .p 5, .p 6, .p 7] (by kernel_rfl) ?_
        refine pM rfl rfl ?_
        refine pN rfl rfl ?_
        refine pF (off := 0) rfl rfl (by kernel_rfl) ?_
        refine pF (off := 1) rfl rfl (by kernel_rfl) ?_
        refine pL rfl rfl (hC.load (by kernel_rfl) rfl) ?_
        refine RP.p rfl (op_len_row (qT rfl) hU Tryz.underlying49 ?_)
        refine RP.p rfl (op_bin (qT rfl) (show ev _ _ = some (.int .i64 (.ofNat 256)) from rfl) (by first | exact bin_geq_t (by omega) | exact bin_geqI_t (by first | with_reducible assumption | omega)) ?_)
        refine pA rfl rfl ?_
        refine RP.nil ?_
        refine Gives.then_ (qT rfl) ?_
        refine Gives.seq ?_
        refine Gives.region [.p 0] (by kernel_rfl) ?_
        refine RP.p rfl (op_assign (show ev _ _ = some (.int .i64 (.ofNat 7)) from rfl) ?_)
        refine RP.nil ?_
        exact Gives.ret1 (RS.one rfl (⟨7, rfl, fun _ => rfl, fun e => by cases e⟩))
      ·
        refine Gives.seq ?_
        refine Gives.region [.p 0] (by kernel_rfl) ?_
        refine RP.p rfl (op_assign (show ev _ _ = some (.int .i64 (.ofNat 0)) from rfl) ?_)
        refine RP.nil ?_
        refine Gives.seq ?_
        refine Gives.block ?_
        refine Gives.seq ?_
        refine Gives.region [.p 0, .e 1 [], .p 2, .p 3] (by kernel_rfl) ?_
        refine pM rfl rfl ?_
        refine RP.e rfl (op_calls (evs_cons (qT rfl) evs_nil) (by kernel_rfl) (usable39_spec hS hC) ?_)
        rintro v h' ⟨rfl, rfl⟩
        refine RP.p rfl (op_notT (qT rfl) ?_)
        refine pA rfl rfl ?_
        refine RP.nil ?_
        refine Gives.else_ (qT rfl) ?_
        refine Gives.seq ?_
        refine Gives.region [.p 0, .p 1, .p 2, .p 3, .p 4, .p 5, .p 6, .p 7, .p 8] (by kernel_rfl) ?_
        refine pM rfl rfl ?_
        refine RP.p rfl (op_len_img (qT rfl) hI Tryz.underlying26 ?_)
        refine RP.p rfl (op_bin (qT rfl) (show ev _ _ = some (.int .i64 (.ofNat 1)) from rfl) (by first | exact bin_lss_f (by omega) | exact bin_lssI_f (by first | with_reducible assumption | omega)) ?_)
        refine pM rfl rfl ?_
        refine RP.p rfl (OpP.on' rfl rfl rfl (op_move (qT rfl) ?_))
        refine RP.p rfl (OpP.on' rfl rfl rfl (op_len_img (qT rfl) hI Tryz.underlying26 ?_))
        refine RP.p rfl (OpP.on' rfl rfl rfl (op_bin (qT rfl) (show ev _ _ = some (.int .i64 (.ofNat 1017)) from rfl) (by first | exact bin_gtr_f (by omega) | exact bin_gtrI_f (by first | with_reducible assumption | omega)) ?_))
        refine RP.p rfl (op_pick_f (qT rfl) (qT rfl) ?_)
        refine pA rfl rfl ?_
        refine RP.nil ?_
        refine Gives.else_ (qT rfl) ?_
        refine Gives.seq ?_
        refine Gives.region [.p 0, .p 1, .p 2, .p 3, .r 4, .p 5, .p 6, .p 7] (by kernel_rfl) ?_
        refine pM rfl rfl ?_
        refine pN rfl rfl ?_
        refine pF (off := 0) rfl rfl (by kernel_rfl) ?_
        refine pF (off := 1) rfl rfl (by kernel_rfl) ?_
        refine pL rfl rfl (hC.load (by kernel_rfl) rfl) ?_
        refine RP.p rfl (op_len_row (qT rfl) hU Tryz.underlying49 ?_)
        refine RP.p rfl (op_bin (qT rfl) (show ev _ _ = some (.int .i64 (.ofNat 256)) from rfl) (by first | exact bin_geq_f (by omega) | exact bin_geqI_f (by first | with_reducible assumption | omega)) ?_)
        refine pA rfl rfl ?_
        refine RP.nil ?_
        refine Gives.else_ (qT rfl) ?_
        refine Gives.skip ?_
        refine Gives.seq ?_
        refine Gives.region [.p 0, .p 1, .p 2, .p 3, .p 4, .r 5, .p 6, .e 7 [5], .p 8, .e 9 [], .p 10, .p 11, .p 12, .e 13 []] (by kernel_rfl) ?_
        refine pM rfl rfl ?_
        refine pM rfl rfl ?_
        refine pN rfl rfl ?_
        refine pF (off := 0) rfl rfl (by kernel_rfl) ?_
        refine pF (off := 1) rfl rfl (by kernel_rfl) ?_
        refine pL rfl rfl (hC.load (by kernel_rfl) rfl) ?_
        refine pM rfl rfl ?_
        refine RP.e rfl (op_callsR (evs_cons (qT rfl) evs_nil) (by kernel_rfl) (clone40_spec hS hw hI (by omega) (by omega)) ?_ ?_)
        · rintro v h1 ⟨hD, hF1⟩
          simp only [List.all_cons, List.all_nil, Bool.and_true]
          exact chkR_load rfl (qT rfl) (Cells.load (hC.fr hw hF1 (fun e => e)) (by kernel_rfl) rfl) rfl (by first | with_reducible exact hsame | exact same_int _ _ | simp [AV.same, AV.same0])
        rintro v h1 ⟨hD, hF1⟩
        have hFa := hF1
        have hDl : ∀ b, blkOf v b → b < h1.next := fun b hb => (hD.2 b hb).2
        replace hC := hC.fr hw hF1 (fun e => e)
        replace hF := hF.then hF1 (by intro c hc; first | exact .inl hc | exact .inl (.inl hc) | exact .inl (.inr hc) | exact hc.elim | (subst hc; right; omega))
        replace hw := hF1.wf
        obtain ⟨bv, ov, cv, xv, hvs⟩ := hD.1.slice (by omega)
        refine RP.p rfl (op_buildSlice (e := 26) (s := 1) (z := .snil) (cs := [v]) Tryz.underlying49 (by kernel_rfl) (by kernel_rfl) (evParts_cons (qT rfl) evParts_nil) rfl (by rw [hvs]; rfl) ?_)
        have hFb : Fr (fun _ => False) h1 (h1.new (.cells 1 (ofL [v]))) := (Fr.refl hw).new _
        obtain ⟨u', h2, ha, hU2, hFc, hbu2, hn2⟩ := append_rowK (bytes := i26.bytes) (news := [v]) hFb.wf (hU.fr hw0 (hFa.trans hFb) (fun _ _ e => e)) (by decide) rfl (by rw [hb26]; omega) (by omega)
        have hone := hU2.one
        have hnn : (h1.new (.cells 1 (ofL [v]))).next = h1.next + 1 := rfl
        replace hD := (hD.fr hw hFb (fun _ _ e => e)).fr hFb.wf hFc (fun b hb e => by { have := (hD.2 b hb).1; have := hU.lt hw0 b e; omega })
        replace hC := (hC.fr hw hFb (fun e => e)).fr hFb.wf hFc hbu
        replace hF := (hF.then hFb (fun c hc => hc.elim)).then hFc (fun c hc => .inl (.inr hc))
        have hwb := hFc.wf
        have hF0 := hFa.next
        refine RP.e rfl (op_append (qT rfl) (qT rfl) (appendA_of Tryz.underlying49 hi26 (z := .snil) (by kernel_rfl) rfl hs26 (srcA_one Tryz.underlying49 (obj_new_same (by simp)) rfl (by rw [hvs]; rfl)) (by rw [hs26] at *; exact ha)) ?_)
        replace hw := hwb
        have hb3 : ∀ b, blkOf u' b → ¬ b = bf := fun b hb e => by { have := hbu2 b hb; omega }
        have hb4 : ∀ b, blkOf v b → ¬ b = bf := fun b hb e => by { have := (hD.2 b hb).1; omega }
        have hb5 : ∀ b, blkOf u' b → h0.next ≤ b ∧ b < h2.next := fun b hb => by { have := hbu2 b hb; omega }
        have hb6 : ∀ b, blkOf u' b → ¬ blkOf v b := fun b hb e => by { have := hbu2 b hb; have := hDl b e; omega }
        refine pN rfl rfl ?_
        refine pF (off := 0) rfl rfl (by kernel_rfl) ?_
        refine pF (off := 1) rfl rfl (by kernel_rfl) ?_
        refine RP.e rfl (op_storeC (qT rfl) (qT rfl) hw hC (by kernel_rfl) (by first | rfl | assumption) (Nat.le_of_ble_eq_true rfl) (fun h3 hC1 hF1 hn => ?_))
        replace hU2 := hU2.fr hw hF1 hb3
        replace hD := hD.fr hw hF1 hb4
        replace hb5 := fun b hb => And.intro (hb5 b hb).1 (Nat.lt_of_lt_of_le (hb5 b hb).2 hF1.next)
        replace hC := hC1
        replace hF := hF.then hF1 (by intro c hc; first | exact .inl hc | exact .inl (.inl hc) | exact .inl (.inr hc) | exact hc.elim | (subst hc; right; omega))
        replace hw := hF1.wf
        clear hF1 hn hC1
        refine RP.nil ?_
        refine Gives.seq ?_
        refine Gives.region [.p 0] (by kernel_rfl) ?_
        refine RP.p rfl (op_assign (show ev _ _ = some (.int .i64 (.ofNat 0)) from rfl) ?_)
        refine RP.nil ?_
        exact Gives.ret0 (RS.one rfl (⟨0, rfl, fun e => absurd rfl e, fun _ => ⟨by omega, by omega, by omega, _, _, hU2, hD, hb5, hb6, hC, hF⟩⟩))
end Go.Abs
namespace Go.Abs
open Go.Proofs
def clampN (q : Int) (lo hi : Nat) : Nat := min (max q.toNat lo) hi
theorem clamp_eq {q : Int} {lo hi : Nat} : (if Int.ofNat hi < (if Int.ofNat lo > q then Int.ofNat lo else q) then Int.ofNat hi else (if Int.ofNat lo > q then Int.ofNat lo else q)) = Int.ofNat (clampN q lo hi) := by
  have e1 : ∀ n : Nat, Int.ofNat n = (n : Int) := fun _ => rfl
  unfold clampN
  rw [e1, e1, e1]
  split <;> split at * <;> omega
theorem clamp_eq' {q : Int} {lo hi : Nat} : (if Int.ofNat hi < (if Int.ofNat lo > q then Int.ofNat lo else q) then Int.ofNat hi else (if Int.ofNat lo > q then Int.ofNat lo else q)) = Int.ofNat (clampN q lo hi) := clamp_eq
variable {X : Ext0} {S : Sums} {L : Nat} {h0 : H}
theorem within_spec {d : Nat} (hS : SOk S) (q : Int) (lo hi : Nat) :
    CS Tryz.prog X S L (d + 1) 38 [zI q, nI lo, nI hi] h0 (fun v h' => v = nI (clampN q lo hi) ∧ h0 = h') := by
  refine CS.of (rs := [.tmp 6]) (hS.none _ (by decide) (by decide)) Tryz.func38 rfl rfl ?_
  refine Gives.seq ?_
  refine Gives.region [.p 0] (by kernel_rfl) ?_
  refine RP.p rfl (op_assign (show ev _ _ = some (.int .i64 (.ofNat 0)) from rfl) ?_)
  refine RP.nil ?_
  refine Gives.seq ?_
  refine Gives.region [.p 0, .p 1, .p 2, .p 3, .p 4, .p 5] (by kernel_rfl) ?_
  refine pM rfl rfl ?_
  refine pM rfl rfl ?_
  refine RP.p rfl (op_max (qT rfl) (qT rfl) ?_)
  refine pM rfl rfl ?_
  refine RP.p rfl (op_min (qT rfl) (qT rfl) ?_)
  rw [clamp_eq]
  refine pA rfl rfl ?_
  refine RP.nil ?_
  exact Gives.ret0 (RS.one rfl (⟨rfl, rfl⟩))
theorem fnew_spec {d : Nat} (hS : SOk S) (hw : WF h0) (q0 q1 q2 q3 q4 : Int) :
    CS Tryz.prog X S L (d + 2) 13 [zI q0, zI q1, zI q2, zI q3, zI q4] h0 (fun v h' => ∃ bf, v = .ptr bf 0 ∧ bf = h0.next ∧ bf < h'.next ∧ Fr (fun _ => False) h0 h' ∧ ∃ to re, Cells h' bf (FopL (clampN q2 1 127) .snil 0 0 0 (clampN q0 0 1023) (clampN q1 0 7) to re 1 0 0 0)) := by
  refine CS.of (rs := [.tmp 10]) (hS.none _ (by decide) (by decide)) Tryz.func13 rfl rfl ?_
  have hF : Fr (fun _ => False) h0 h0 := Fr.refl hw
  refine Gives.seq ?_
  refine Gives.region [.p 0] (by kernel_rfl) ?_
  refine RP.p rfl (op_assign rfl ?_)
  refine RP.nil ?_
  refine Gives.seq ?_
  refine Gives.region [.p 0] (by kernel_rfl) ?_
  refine RP.p rfl (op_assign rfl ?_)
  refine RP.nil ?_
  refine Gives.seq ?_
  refine Gives.region [.p 0, .p 1, .e 2 [], .p 3, .p 4, .p 5, .e 6 [], .p 7, .p 8, .e 9 [], .p 10, .p 11, .e 12 [], .p 13, .p 14, .e 15 [], .p 16, .p 17, .p 18] (by kernel_rfl) ?_
  refine pM rfl rfl ?_
  refine pM rfl rfl ?_
  refine RP.e rfl (op_callv (qT rfl) (evs_cons (qT rfl) (evs_cons (show ev _ _ = some (.int .i64 (.ofNat 1)) from rfl) (evs_cons (show ev _ _ = some (.int .i64 (.ofNat 127)) from rfl) evs_nil))) (by kernel_rfl) (within_spec hS _ _ _) ?_)
  rintro v h' ⟨rfl, rfl⟩
  refine RP.p rfl (op_build (z := .agg [nI 0, .snil, nI 0, nI 0, nI 0]) (cs := [nI (clampN q2 1 127), .snil, nI 0, nI 0, nI 0]) (by kernel_rfl) Tryz.underlying101 (evParts_cons (qT rfl) evParts_nil) (by kernel_rfl) (by kernel_rfl) ?_)
  refine pM rfl rfl ?_
  refine pM rfl rfl ?_
  refine RP.e rfl (op_callv (qT rfl) (evs_cons (qT rfl) (evs_cons (show ev _ _ = some (.int .i64 (.ofNat 0)) from rfl) (evs_cons (show ev _ _ = some (.int .i64 (.ofNat 1023)) from rfl) evs_nil))) (by kernel_rfl) (within_spec hS _ _ _) ?_)
  rintro v h' ⟨rfl, rfl⟩
  refine pM rfl rfl ?_
  refine pM rfl rfl ?_
  refine RP.e rfl (op_callv (qT rfl) (evs_cons (qT rfl) (evs_cons (show ev _ _ = some (.int .i64 (.ofNat 0)) from rfl) (evs_cons (show ev _ _ = some (.int .i64 (.ofNat 7)) from rfl) evs_nil))) (by kernel_rfl) (within_spec hS _ _ _) ?_)
  rintro v h' ⟨rfl, rfl⟩
  refine pM rfl rfl ?_
  refine pM rfl rfl ?_
  refine RP.e rfl (op_callv (qT rfl) (evs_cons (qT rfl) (evs_cons (show ev _ _ = some (.int .i64 (.ofNat 1)) from rfl) (evs_cons (show ev _ _ = some (.int .i64 (.ofNat 1099511627776)) from rfl) evs_nil))) (by kernel_rfl) (within_spec hS _ _ _) ?_)
  rintro v h' ⟨rfl, rfl⟩
  refine pM rfl rfl ?_
  refine pM rfl rfl ?_
  refine RP.e rfl (op_callv (qT rfl) (evs_cons (qT rfl) (evs_cons (show ev _ _ = some (.int .i64 (.ofNat 0)) from rfl) (evs_cons (show ev _ _ = some (.int .i64 (.ofNat 255)) from rfl) evs_nil))) (by kernel_rfl) (within_spec hS _ _ _) ?_)
  rintro v h' ⟨rfl, rfl⟩
  refine RP.p rfl (op_build (z := .agg [nI 0, .snil, nI 0, nI 0, nI 0, .bool false, nI 0, nI 0, nI 0, nI 0, nI 0, .snil, nI 0, nI 0, nI 0]) (cs := FopL (clampN q2 1 127) .snil 0 0 0 (clampN q0 0 1023) (clampN q1 0 7) (Int.ofNat (clampN q3 1 1099511627776)) (Int.ofNat (clampN q4 0 255)) 1 0 0 0) (by kernel_rfl) Tryz.underlying103 (evParts_cons (qT rfl) (evParts_cons rfl (evParts_cons rfl (evParts_cons (qT rfl) (evParts_cons (qT rfl) (evParts_cons (qT rfl) (evParts_cons (qT rfl) evParts_nil))))))) (by kernel_rfl) (by kernel_rfl) ?_)
  refine RP.p rfl (op_boxC (qT rfl) hw (fun h1 b29 eb29 hB29 hF1 hn => ?_))
  have l_b29 : h0.next ≤ b29 := by have := hF.next; omega
  replace hF := hF.then hF1 (by intro c hc; first | exact .inl hc | exact .inl (.inl hc) | exact .inl (.inr hc) | exact hc.elim | (subst hc; right; omega))
  replace hw := hF1.wf
  clear hF1
  refine pA rfl rfl ?_
  refine RP.nil ?_
  exact Gives.ret0 (RS.one rfl (⟨b29, rfl, eb29, by omega, hF, _, _, hB29⟩))
def farmOk (q0 q1 : Int) : Prop := 0 ≤ q0 ∧ q0 ≤ 1023 ∧ 0 ≤ q1 ∧ q1 ≤ 7
theorem gnew_spec {d : Nat} (hS : SOk S) (hw : WF h0) (q0 q1 q2 : Int) :
    CS Tryz.prog X S L (d + 1) 14 [zI q0, zI q1, zI q2] h0 (fun v h' => Fr (fun _ => False) h0 h' ∧ (¬ farmOk q0 q1 → v = .pnil) ∧ (farmOk q0 q1 → ∃ bg, v = .ptr bg 0 ∧ bg = h0.next ∧ bg < h'.next ∧ Cells h' bg (FarmL q0.toNat (clampN q2 1 127) q1.toNat 0 false false false 0))) := by
  refine CS.of (rs := [.tmp 6]) (hS.none _ (by decide) (by decide)) Tryz.func14 rfl rfl ?_
  have hF : Fr (fun _ => False) h0 h0 := Fr.refl hw
  have e1 : ∀ n : Nat, Int.ofNat n = (n : Int) := fun _ => rfl
  by_cases h1 : q0 < Int.ofNat 0
  ·
    refine Gives.seq ?_
    refine Gives.region [.p 0] (by kernel_rfl) ?_
    refine RP.p rfl (op_assign rfl ?_)
    refine RP.nil ?_
    refine Gives.seq ?_
    refine Gives.seq ?_
    refine Gives.region [.p 0, .p 1, .p 2, .p 3, .p 4, .p 5, .p 6, .p 7, .p 8, .p 9, .p 10, .p 11, .p 12, .p 13] (by kernel_rfl) ?_
    refine pM rfl rfl ?_
    refine RP.p rfl (op_bin (qT rfl) (show ev _ _ = some (.int .i64 (.ofNat 0)) from rfl) (by first | exact bin_lss_t (by omega) | exact bin_lssI_t (by first | assumption | omega)) ?_)
    refine pM rfl rfl ?_
    refine RP.p rfl (OpP.offT rfl rfl rfl ?_)
    refine RP.p rfl (OpP.offT rfl rfl rfl ?_)
    refine RP.p rfl (op_pick_t (qT rfl) rfl ?_)
    refine pM rfl rfl ?_
    refine RP.p rfl (OpP.offT rfl rfl rfl ?_)
    refine RP.p rfl (OpP.offT rfl rfl rfl ?_)
    refine RP.p rfl (op_pick_t (qT rfl) rfl ?_)
    refine pM rfl rfl ?_
    refine RP.p rfl (OpP.offT rfl rfl rfl ?_)
    refine RP.p rfl (OpP.offT rfl rfl rfl ?_)
    refine RP.p rfl (op_pick_t (qT rfl) rfl ?_)
    refine RP.nil ?_
    refine Gives.then_ (qT rfl) ?_
    refine Gives.seq ?_
    refine Gives.region [.p 0] (by kernel_rfl) ?_
    refine RP.p rfl (op_assign rfl ?_)
    refine RP.nil ?_
    exact Gives.ret0 (RS.one rfl (⟨hF, fun _ => rfl, fun e => by unfold farmOk at e; rw [e1] at h1; omega⟩))
  · by_cases h2 : Int.ofNat 1023 < q0
    ·
      refine Gives.seq ?_
      refine Gives.region [.p 0] (by kernel_rfl) ?_
      refine RP.p rfl (op_assign rfl ?_)
      refine RP.nil ?_
      refine Gives.seq ?_
      refine Gives.seq ?_
      refine Gives.region [.p 0, .p 1, .p 2, .p 3, .p 4, .p 5, .p 6, .p 7, .p 8, .p 9, .p 10, .p 11, .p 12, .p 13] (by kernel_rfl) ?_
      refine pM rfl rfl ?_
      refine RP.p rfl (op_bin (qT rfl) (show ev _ _ = some (.int .i64 (.ofNat 0)) from rfl) (by first | exact bin_lss_f (by omega) | exact bin_lssI_f (by first | assumption | omega)) ?_)
      refine pM rfl rfl ?_
      refine RP.p rfl (OpP.on' rfl rfl rfl (op_move (qT rfl) ?_))
      refine RP.p rfl (OpP.on' rfl rfl rfl (op_bin (qT rfl) (show ev _ _ = some (.int .i64 (.ofNat 1023)) from rfl) (by first | exact bin_gtr_t (by omega) | exact bin_gtrI_t (by first | assumption | omega)) ?_))
      refine RP.p rfl (op_pick_f (qT rfl) (qT rfl) ?_)
      refine pM rfl rfl ?_
      refine RP.p rfl (OpP.offT rfl rfl rfl ?_)
      refine RP.p rfl (OpP.offT rfl rfl rfl ?_)
      refine RP.p rfl (op_pick_t (qT rfl) rfl ?_)
      refine pM rfl rfl ?_
      refine RP.p rfl (OpP.offT rfl rfl rfl ?_)
      refine RP.p rfl (OpP.offT rfl rfl rfl ?_)
      refine RP.p rfl (op_pick_t (qT rfl) rfl ?_)
      refine RP.nil ?_
      refine Gives.then_ (qT rfl) ?_
      refine Gives.seq ?_
      refine Gives.region [.p 0] (by kernel_rfl) ?_
      refine RP.p rfl (op_assign rfl ?_)
      refine RP.nil ?_
      exact Gives.ret0 (RS.one rfl (⟨hF, fun _ => rfl, fun e => by unfold farmOk at e; rw [e1] at h2; omega⟩))
    · by_cases h3 : q1 < Int.ofNat 0
      ·
        refine Gives.seq ?_
        refine Gives.region [.p 0] (by kernel_rfl) ?_
        refine RP.p rfl (op_assign rfl ?_)
        refine RP.nil ?_
        refine Gives.seq ?_
        refine Gives.seq ?_
        refine Gives.region [.p 0, .p 1, .p 2, .p 3, .p 4, .p 5, .p 6, .p 7, .p 8, .p 9, .p 10, .p 11, .p 12, .p 13] (by kernel_rfl) ?_
        refine pM rfl rfl ?_
        refine RP.p rfl (op_bin (qT rfl) (show ev _ _ = some (.int .i64 (.ofNat 0)) from rfl) (by first | exact bin_lss_f (by omega) | exact bin_lssI_f (by first | assumption | omega)) ?_)
        refine pM rfl rfl ?_
        refine RP.p rfl (OpP.on' rfl rfl rfl (op_move (qT rfl) ?_))
        refine RP.p rfl (OpP.on' rfl rfl rfl (op_bin (qT rfl) (show ev _ _ = some (.int .i64 (.ofNat 1023)) from rfl) (by first | exact bin_gtr_f (by omega) | exact bin_gtrI_f (by first | assumption | omega)) ?_))
        refine RP.p rfl (op_pick_f (qT rfl) (qT rfl) ?_)
        refine pM rfl rfl ?_
        refine RP.p rfl (OpP.on' rfl rfl rfl (op_move (qT rfl) ?_))
        refine RP.p rfl (OpP.on' rfl rfl rfl (op_bin (qT rfl) (show ev _ _ = some (.int .i64 (.ofNat 0)) from rfl) (by first | exact bin_lss_t (by omega) | exact bin_lssI_t (by first | assumption | omega)) ?_))
        refine RP.p rfl (op_pick_f (qT rfl) (qT rfl) ?_)
        refine pM rfl rfl ?_
        refine RP.p rfl (OpP.offT rfl rfl rfl ?_)
        refine RP.p rfl (OpP.offT rfl rfl rfl ?_)
        refine RP.p rfl (op_pick_t (qT rfl) rfl ?_)
        refine RP.nil ?_
        refine Gives.then_ (qT rfl) ?_
        refine Gives.seq ?_
        refine Gives.region [.p 0] (by kernel_rfl) ?_
        refine RP.p rfl (op_assign rfl ?_)
        refine RP.nil ?_
        exact Gives.ret0 (RS.one rfl (⟨hF, fun _ => rfl, fun e => by unfold farmOk at e; rw [e1] at h3; omega⟩))
      · by_cases h4 : Int.ofNat 7 < q1
        ·
          refine Gives.seq ?_
          refine Gives.region [.p 0] (by kernel_rfl) ?_
          refine RP.p rfl (op_assign rfl ?_)
          refine RP.nil ?_
          refine Gives.seq ?_
          refine Gives.seq ?_
          refine Gives.region [.p 0, .p 1, .p 2, .p 3, .p 4, .p 5, .p 6, .p 7, .p 8, .p 9, .p 10, .p 11, .p 12, .p 13] (by kernel_rfl) ?_
          refine pM rfl rfl ?_
          refine RP.p rfl (op_bin (qT rfl) (show ev _ _ = some (.int .i64 (.ofNat 0)) from rfl) (by first | exact bin_lss_f (by omega) | exact bin_lssI_f (by first | assumption | omega)) ?_)
          refine pM rfl rfl ?_
          refine RP.p rfl (OpP.on' rfl rfl rfl (op_move (qT rfl) ?_))
          refine RP.p rfl (OpP.on' rfl rfl rfl (op_bin (qT rfl) (show ev _ _ = some (.int .i64 (.ofNat 1023)) from rfl) (by first | exact bin_gtr_f (by omega) | exact bin_gtrI_f (by first | assumption | omega)) ?_))
          refine RP.p rfl (op_pick_f (qT rfl) (qT rfl) ?_)
          refine pM rfl rfl ?_
          refine RP.p rfl (OpP.on' rfl rfl rfl (op_move (qT rfl) ?_))
          refine RP.p rfl (OpP.on' rfl rfl rfl (op_bin (qT rfl) (show ev _ _ = some (.int .i64 (.ofNat 0)) from rfl) (by first | exact bin_lss_f (by omega) | exact bin_lssI_f (by first | assumption | omega)) ?_))
          refine RP.p rfl (op_pick_f (qT rfl) (qT rfl) ?_)
          refine pM rfl rfl ?_
          refine RP.p rfl (OpP.on' rfl rfl rfl (op_move (qT rfl) ?_))
          refine RP.p rfl (OpP.on' rfl rfl rfl (op_bin (qT rfl) (show ev _ _ = some (.int .i64 (.ofNat 7)) from rfl) (by first | exact bin_gtr_t (by omega) | exact bin_gtrI_t (by first | assumption | omega)) ?_))
          refine RP.p rfl (op_pick_f (qT rfl) (qT rfl) ?_)
          refine RP.nil ?_
          refine Gives.then_ (qT rfl) ?_
          refine Gives.seq ?_
          refine Gives.region [.p 0] (by kernel_rfl) ?_
          refine RP.p rfl (op_assign rfl ?_)
          refine RP.nil ?_
          exact Gives.ret0 (RS.one rfl (⟨hF, fun _ => rfl, fun e => by unfold farmOk at e; rw [e1] at h4; omega⟩))
        · have hok : farmOk q0 q1 := by unfold farmOk; rw [e1] at h1 h2 h3 h4; omega
          have g0 : q0 = Int.ofNat q0.toNat := by unfold farmOk at hok; rw [e1]; omega
          have g1 : q1 = Int.ofNat q1.toNat := by unfold farmOk at hok; rw [e1]; omega
          refine Gives.seq ?_
          refine Gives.region [.p 0] (by kernel_rfl) ?_
          refine RP.p rfl (op_assign rfl ?_)
          refine RP.nil ?_
          refine Gives.seq ?_
          refine Gives.seq ?_
          refine Gives.region [.p 0, .p 1, .p 2, .p 3, .p 4, .p 5, .p 6, .p 7, .p 8, .p 9, .p 10, .p 11, .p 12, .p 13] (by kernel_rfl) ?_
          refine pM rfl rfl ?_
          refine RP.p rfl (op_bin (qT rfl) (show ev _ _ = some (.int .i64 (.ofNat 0)) from rfl) (by first | exact bin_lss_f (by omega) | exact bin_lssI_f (by first | assumption | omega)) ?_)
          refine pM rfl rfl ?_
          refine RP.p rfl (OpP.on' rfl rfl rfl (op_move (qT rfl) ?_))
          refine RP.p rfl (OpP.on' rfl rfl rfl (op_bin (qT rfl) (show ev _ _ = some (.int .i64 (.ofNat 1023)) from rfl) (by first | exact bin_gtr_f (by omega) | exact bin_gtrI_f (by first | assumption | omega)) ?_))
          refine RP.p rfl (op_pick_f (qT rfl) (qT rfl) ?_)
          refine pM rfl rfl ?_
          refine RP.p rfl (OpP.on' rfl rfl rfl (op_move (qT rfl) ?_))
          refine RP.p rfl (OpP.on' rfl rfl rfl (op_bin (qT rfl) (show ev _ _ = some (.int .i64 (.ofNat 0)) from rfl) (by first | exact bin_lss_f (by omega) | exact bin_lssI_f (by first | assumption | omega)) ?_))
          refine RP.p rfl (op_pick_f (qT rfl) (qT rfl) ?_)
          refine pM rfl rfl ?_
          refine RP.p rfl (OpP.on' rfl rfl rfl (op_move (qT rfl) ?_))
          refine RP.p rfl (OpP.on' rfl rfl rfl (op_bin (qT rfl) (show ev _ _ = some (.int .i64 (.ofNat 7)) from rfl) (by first | exact bin_gtr_f (by omega) | exact bin_gtrI_f (by first | assumption | omega)) ?_))
          refine RP.p rfl (op_pick_f (qT rfl) (qT rfl) ?_)
          refine RP.nil ?_
          refine Gives.else_ (qT rfl) ?_
          refine Gives.skip ?_
          refine Gives.seq ?_
          refine Gives.region [.p 0, .p 1, .p 2, .p 3, .p 4, .p 5, .p 6, .p 7, .p 8] (by kernel_rfl) ?_
          refine pM rfl rfl ?_
          refine pM rfl rfl ?_
          refine RP.p rfl (op_max (qT rfl) (show ev _ _ = some (.int .i64 (.ofNat 1)) from rfl) ?_)
          refine RP.p rfl (op_min (qT rfl) (show ev _ _ = some (.int .i64 (.ofNat 127)) from rfl) ?_)
          rw [clamp_eq]
          refine pM rfl rfl ?_
          refine RP.p rfl (op_build (z := .agg [nI 0, .bool false, .bool false, .bool false, nI 0, nI 0]) (cs := [zI q1, .bool false, .bool false, .bool false, nI 0, nI 0]) (by kernel_rfl) Tryz.underlying62 (evParts_cons (qT rfl) evParts_nil) (by kernel_rfl) (by kernel_rfl) ?_)
          refine RP.p rfl (op_build (z := .agg [nI 0, nI 0, nI 0, .bool false, .bool false, .bool false, nI 0, nI 0]) (cs := [zI q0, nI (clampN q2 1 127), zI q1, .bool false, .bool false, .bool false, nI 0, nI 0]) (by kernel_rfl) Tryz.underlying105 (evParts_cons (qT rfl) (evParts_cons (qT rfl) (evParts_cons (qT rfl) evParts_nil))) (by kernel_rfl) (by kernel_rfl) ?_)
          refine RP.p rfl (op_boxC (qT rfl) hw (fun h1 b28 eb28 hB28 hF1 hn => ?_))
          have l_b28 : h0.next ≤ b28 := by have := hF.next; omega
          replace hF := hF.then hF1 (by intro c hc; first | exact .inl hc | exact .inl (.inl hc) | exact .inl (.inr hc) | exact hc.elim | (subst hc; right; omega))
          replace hw := hF1.wf
          clear hF1
          refine pA rfl rfl ?_
          refine RP.nil ?_
          exact Gives.ret0 (RS.one rfl (⟨hF, fun e => absurd hok e, fun _ => ⟨b28, rfl, eb28, by omega, by show Cells _ _ [zI (Int.ofNat q0.toNat), nI (clampN q2 1 127), zI (Int.ofNat q1.toNat), .bool false, .bool false, .bool false, nI 0, nI 0]; rw [← g0, ← g1]; exact hB28⟩⟩))
def wordL (ch nx : Nat) (lo wa re : Bool) : List AV := [nI ch, .bool lo, .bool wa, .bool re, nI 0, nI nx]
theorem cvalid_spec {d : Nat} (hS : SOk S) (hw : WF h0) {ch nx : Nat} {lo wa re : Bool} (hch : ch ≤ 7) (hnx : nx < 256) :
    CS Tryz.prog X S L (d + 1) 51 [.agg (wordL ch nx lo wa re)] h0 (fun v h' => v = .bool true ∧ Fr (fun _ => False) h0 h') := by
  refine CS.of (rs := [.tmp 2]) (hS.none _ (by decide) (by decide)) Tryz.func51 rfl rfl ?_
  have hF : Fr (fun _ => False) h0 h0 := Fr.refl hw
  refine Gives.seq ?_
  refine Gives.region [.p 0, .p 1] (by kernel_rfl) ?_
  refine RP.p rfl (op_boxC (qT rfl) hw (fun h1 b1 eb1 hB1 hF1 hn => ?_))
  have l_b1 : h0.next ≤ b1 := by have := hF.next; omega
  replace hB1 : Cells h1 b1 (wordL ch nx lo wa re) := hB1
  replace hF := hF.then hF1 (by intro c hc; first | exact .inl hc | exact .inl (.inl hc) | exact .inl (.inr hc) | exact hc.elim | (subst hc; right; omega))
  replace hw := hF1.wf
  clear hF1
  refine RP.p rfl (op_assign rfl ?_)
  refine RP.nil ?_
  refine Gives.seq ?_
  refine Gives.region [.p 0, .r 1, .p 2, .p 3, .p 4, .r 5, .p 6, .p 7, .p 8, .p 9, .r 10, .p 11, .p 12, .p 13, .p 14, .r 15, .p 16, .p 17, .p 18, .p 19, .r 20, .p 21, .p 22, .p 23, .p 24, .r 25, .p 26, .p 27, .p 28] (by kernel_rfl) ?_
  refine pF (off := 0) rfl rfl (by kernel_rfl) ?_
  refine pL rfl rfl (hB1.load (by kernel_rfl) rfl) ?_
  refine RP.p rfl (op_bin (qT rfl) (show ev _ _ = some (.int .i64 (.ofNat 0)) from rfl) (by first | exact bin_geq_t (by omega) | exact bin_geqI_t (by first | assumption | omega)) ?_)
  refine pM rfl rfl ?_
  refine RP.p rfl (OpP.on' rfl rfl rfl (op_fieldAddr (off := 0) (qT rfl) (by kernel_rfl) ?_))
  refine RP.r rfl (OpR.on' rfl rfl rfl (op_load (qT rfl) (hB1.load (by kernel_rfl) rfl) ?_))
  refine RP.p rfl (OpP.on' rfl rfl rfl (op_bin (qT rfl) (show ev _ _ = some (.int .i64 (.ofNat 7)) from rfl) (by first | exact bin_leq_t (by omega) | exact bin_leqI_t (by first | assumption | omega)) ?_))
  refine RP.p rfl (op_pick_t (qT rfl) (qT rfl) ?_)
  refine pM rfl rfl ?_
  refine RP.p rfl (OpP.on' rfl rfl rfl (op_fieldAddr (off := 4) (qT rfl) (by kernel_rfl) ?_))
  refine RP.r rfl (OpR.on' rfl rfl rfl (op_load (qT rfl) (hB1.load (by kernel_rfl) rfl) ?_))
  refine RP.p rfl (OpP.on' rfl rfl rfl (op_bin (qT rfl) (show ev _ _ = some (.int .i64 (.ofNat 0)) from rfl) (by first | exact bin_geq_t (by omega) | exact bin_geqI_t (by first | assumption | omega)) ?_))
  refine RP.p rfl (op_pick_t (qT rfl) (qT rfl) ?_)
  refine pM rfl rfl ?_
  refine RP.p rfl (OpP.on' rfl rfl rfl (op_fieldAddr (off := 4) (qT rfl) (by kernel_rfl) ?_))
  refine RP.r rfl (OpR.on' rfl rfl rfl (op_load (qT rfl) (hB1.load (by kernel_rfl) rfl) ?_))
  refine RP.p rfl (OpP.on' rfl rfl rfl (op_bin (qT rfl) (show ev _ _ = some (.int .i64 (.ofNat 3)) from rfl) (by first | exact bin_leq_t (by omega) | exact bin_leqI_t (by first | assumption | omega)) ?_))
  refine RP.p rfl (op_pick_t (qT rfl) (qT rfl) ?_)
  refine pM rfl rfl ?_
  refine RP.p rfl (OpP.on' rfl rfl rfl (op_fieldAddr (off := 5) (qT rfl) (by kernel_rfl) ?_))
  refine RP.r rfl (OpR.on' rfl rfl rfl (op_load (qT rfl) (hB1.load (by kernel_rfl) rfl) ?_))
  refine RP.p rfl (OpP.on' rfl rfl rfl (op_bin (qT rfl) (show ev _ _ = some (.int .i64 (.ofNat 0)) from rfl) (by first | exact bin_geq_t (by omega) | exact bin_geqI_t (by first | assumption | omega)) ?_))
  refine RP.p rfl (op_pick_t (qT rfl) (qT rfl) ?_)
  refine pM rfl rfl ?_
  refine RP.p rfl (OpP.on' rfl rfl rfl (op_fieldAddr (off := 5) (qT rfl) (by kernel_rfl) ?_))
  refine RP.r rfl (OpR.on' rfl rfl rfl (op_load (qT rfl) (hB1.load (by kernel_rfl) rfl) ?_))
  refine RP.p rfl (OpP.on' rfl rfl rfl (op_bin (qT rfl) (show ev _ _ = some (.int .i64 (.ofNat 255)) from rfl) (by first | exact bin_leq_t (by omega) | exact bin_leqI_t (by first | assumption | omega)) ?_))
  refine RP.p rfl (op_pick_t (qT rfl) (qT rfl) ?_)
  refine pA rfl rfl ?_
  refine RP.nil ?_
  exact Gives.ret0 (RS.one rfl (⟨rfl, hF⟩))
end Go.Abs
