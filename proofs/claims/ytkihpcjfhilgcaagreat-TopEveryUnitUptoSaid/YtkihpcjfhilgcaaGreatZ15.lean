/- What the checksums give, with open values. No condition. -/
import Derived.Ground.GgzProg
import Derived.Ground.SlgmProg
import Derived.RangeFuncGives
import Derived.Shelf.SlIterI.Nil
import Derived.Shelf.SortM.Plain
import Derived.Shelf.SortM.SortNone
import Derived.Test.YtkihpcjfhilgcaaGreatProg
import Derived.Test.YtkihpcjfhilgcaaGreatZ09
import Derived.Test.YtkihpcjfhilgcaaGreatZ12
import Derived.Test.YtkihpcjfhilgcaaGreatZ14
namespace Go.Abs
open Go.Proofs
variable {X : Ext0} {S : Sums} {L : Nat} {h : H}
def LB (h : H) (b o : Nat) (l : List Nat) : Prop := ∀ i x, l[i]? = some x → loadA Tryz.prog h 5 b (o + i) = some (.int .u8 (.ofNat x))
theorem crc32_spec {d : Nat} (hS : SOk S) (c : Nat) (hc : c < 4294967296) (b o cp : Nat) (ex : Bool) (l : List Nat) (hl : ∀ x ∈ l, x < 256) (hcp : l.length ≤ cp) (hlen : l.length < 9223372036854775807) (hL : l.length + 10 < L) (hlb : LB h b o l) :
    CS Tryz.prog X S L (d + 1) 110 [.int .u32 (.ofNat c), .slice b o l.length cp 1 ex] h (fun v h' => v = .int .u32 (.ofNat (crc32 c l)) ∧ h = h') := by
  refine CS.of (rs := [.tmp 4]) (hS.none _ (by decide) (by decide)) Tryz.func110 rfl rfl ?_
  refine Gives.seq ?_
  refine Gives.region [.p 0] (by kernel_rfl) ?_
  refine RP.p rfl (op_assign (show ev _ _ = some (.int .u32 (.ofNat 0)) from rfl) ?_)
  refine RP.nil ?_
  refine Gives.seq ?_
  refine Gives.region [.p 0, .p 1, .p 2] (by kernel_rfl) ?_
  refine RP.p rfl (op_move (qT (by repeat (first | with_reducible (first | exact qS | assumption) | refine qN rfl ?_ | exact qO rfl))) ?_)
  refine RP.p rfl (op_neg32 (qT (by repeat (first | with_reducible (first | exact qS | assumption) | refine qN rfl ?_ | exact qO rfl))) (by omega) ?_)
  refine RP.p rfl (op_assign (qT (by repeat (first | with_reducible (first | exact qS | assumption) | refine qN rfl ?_ | exact qO rfl))) ?_)
  refine RP.nil ?_
  have hc0 : 4294967295 ^^^ c < 4294967296 := Nat.xor_lt_two_pow (n := 32) (by decide) hc
  refine Gives.seq ?_
  refine Gives.seq ?_
  refine Gives.region [.p 0, .p 1, .p 2] (by kernel_rfl) ?_
  refine RP.p rfl (op_move (qT (by repeat (first | with_reducible (first | exact qS | assumption) | refine qN rfl ?_ | exact qO rfl))) ?_)
  refine RP.p rfl (op_len_slice (qT (by repeat (first | with_reducible (first | exact qS | assumption) | refine qN rfl ?_ | exact qO rfl))) Tryz.underlying26 ?_)
  refine RP.p rfl (op_move (show ev _ _ = some (.int .i64 (.ofNat 0)) from rfl) ?_)
  refine RP.nil ?_
  refine Gives.block ?_
  refine Gives.loop (I := fun k F h' => ∃ i c', k + i = l.length ∧ c' < 4294967296 ∧ crcL (l.drop i) c' = crcL l (4294967295 ^^^ c) ∧ F.at 0 = some (.int .u32 (.ofNat c')) ∧ F.at 1 = some (.slice b o l.length cp 1 ex) ∧ F.at 10 = some (.int .i64 (.ofNat l.length)) ∧ F.at 11 = some (.int .i64 (.ofNat i)) ∧ h = h')
    (fun k F h' hI => ?_) (k := l.length) (by omega) ⟨0, _, rfl, hc0, rfl, (by repeat (first | with_reducible (first | exact qS | assumption) | refine qN rfl ?_ | exact qO rfl)), (by repeat (first | with_reducible (first | exact qS | assumption) | refine qN rfl ?_ | exact qO rfl)), (by repeat (first | with_reducible (first | exact qS | assumption) | refine qN rfl ?_ | exact qO rfl)), (by repeat (first | with_reducible (first | exact qS | assumption) | refine qN rfl ?_ | exact qO rfl)), rfl⟩
  obtain ⟨i, c', hk, hc', hcr, f0, f1, f10, f11, rfl⟩ := hI
  refine Gives.seq ?_
  refine Gives.region [.p 0] (by kernel_rfl) ?_
  refine RP.p rfl (op_bin (qT (by repeat (first | with_reducible (first | exact qS | assumption) | refine qN rfl ?_ | exact qO rfl))) (qT (by repeat (first | with_reducible (first | exact qS | assumption) | refine qN rfl ?_ | exact qO rfl))) bin_lssN ?_)
  refine RP.nil ?_
  refine Gives.seq ?_
  refine Gives.cond (qT (by repeat (first | with_reducible (first | exact qS | assumption) | refine qN rfl ?_ | exact qO rfl))) (fun hb => ?_) (fun hb => ?_)
  · have hi : i < l.length := of_decide_eq_true hb
    obtain ⟨k, rfl⟩ : ∃ m, k = m + 1 := ⟨k - 1, by omega⟩
    have hx : l[i] < 256 := hl _ (List.getElem_mem hi)
    have hxl := hlb i l[i] (List.getElem?_eq_getElem hi)
    have hdr : l.drop i = l[i] :: l.drop (i + 1) := List.drop_eq_getElem_cons hi
    rw [hdr] at hcr
    refine Gives.skip ?_
    refine Gives.seq ?_
    refine Gives.block ?_
    refine Gives.seq ?_
    refine Gives.region [.p 0, .p 1] (by kernel_rfl) ?_
    refine RP.p rfl (op_move (qT (by repeat (first | with_reducible (first | exact qS | assumption) | refine qN rfl ?_ | exact qO rfl))) ?_)
    refine RP.p rfl (op_assign (qT (by repeat (first | with_reducible (first | exact qS | assumption) | refine qN rfl ?_ | exact qO rfl))) ?_)
    refine RP.nil ?_
    refine Gives.seq ?_
    refine Gives.region [.p 0, .p 1, .p 2, .p 3, .r 4, .p 5, .p 6, .p 7] (by kernel_rfl) ?_
    refine RP.p rfl (op_move (qT (by repeat (first | with_reducible (first | exact qS | assumption) | refine qN rfl ?_ | exact qO rfl))) ?_)
    refine RP.p rfl (op_move (qT (by repeat (first | with_reducible (first | exact qS | assumption) | refine qN rfl ?_ | exact qO rfl))) ?_)
    refine RP.p rfl (op_move (qT (by repeat (first | with_reducible (first | exact qS | assumption) | refine qN rfl ?_ | exact qO rfl))) ?_)
    refine RP.p rfl (op_indexAddr (qT (by repeat (first | with_reducible (first | exact qS | assumption) | refine qN rfl ?_ | exact qO rfl))) (qT (by repeat (first | with_reducible (first | exact qS | assumption) | refine qN rfl ?_ | exact qO rfl))) Tryz.underlying26 (by kernel_rfl) hi hcp ?_)
    refine RP.r rfl (op_load (qT (by repeat (first | with_reducible (first | exact qS | assumption) | refine qN rfl ?_ | exact qO rfl))) (by rw [Nat.mul_one]; exact hxl) ?_)
    refine RP.p rfl (op_conv (qT (by repeat (first | with_reducible (first | exact qS | assumption) | refine qN rfl ?_ | exact qO rfl))) Tryz.underlying5 Tryz.underlying35 (by have e1 : topK .i64 = 9223372036854775808 := rfl; have e2 : topK .u32 = 4294967296 := rfl; have e3 : topK .u64 = 18446744073709551616 := rfl; have e4 : topK .u8 = 256 := rfl; have e5 : topK .u16 = 65536 := rfl; omega) ?_)
    refine RP.p rfl (op_bin (qT (by repeat (first | with_reducible (first | exact qS | assumption) | refine qN rfl ?_ | exact qO rfl))) (qT (by repeat (first | with_reducible (first | exact qS | assumption) | refine qN rfl ?_ | exact qO rfl))) (bin_xor (by have e1 : topK .i64 = 9223372036854775808 := rfl; have e2 : topK .u32 = 4294967296 := rfl; have e3 : topK .u64 = 18446744073709551616 := rfl; have e4 : topK .u8 = 256 := rfl; have e5 : topK .u16 = 65536 := rfl; omega) (by have e1 : topK .i64 = 9223372036854775808 := rfl; have e2 : topK .u32 = 4294967296 := rfl; have e3 : topK .u64 = 18446744073709551616 := rfl; have e4 : topK .u8 = 256 := rfl; have e5 : topK .u16 = 65536 := rfl; omega)) ?_)
    refine RP.p rfl (op_assign (qT (by repeat (first | with_reducible (first | exact qS | assumption) | refine qN rfl ?_ | exact qO rfl))) ?_)
    refine RP.nil ?_
    have hcx : c' ^^^ l[i] < 4294967296 := Nat.xor_lt_two_pow (n := 32) hc' (Nat.lt_trans hx (by decide))
    refine Gives.seq ?_
    refine Gives.region [.p 0] (by kernel_rfl) ?_
    refine RP.p rfl (op_move (show ev _ _ = some (.int .i64 (.ofNat 0)) from rfl) ?_)
    refine RP.nil ?_
    refine Gives.block ?_
    refine Gives.loop (I := fun k F h' => ∃ j c2, k + j = 8 ∧ c2 < 4294967296 ∧ crcBits k c2 = crcBits 8 (c' ^^^ l[i]) ∧ F.at 0 = some (.int .u32 (.ofNat c2)) ∧ F.at 1 = some (.slice b o l.length cp 1 ex) ∧ F.at 10 = some (.int .i64 (.ofNat l.length)) ∧ F.at 11 = some (.int .i64 (.ofNat i)) ∧ F.at 21 = some (.int .i64 (.ofNat j)) ∧ h = h')
      (fun k F h' hI => ?_) (k := 8) (by omega) ⟨0, _, rfl, hcx, rfl, (by repeat (first | with_reducible (first | exact qS | assumption) | refine qN rfl ?_ | exact qO rfl)), (by repeat (first | with_reducible (first | exact qS | assumption) | refine qN rfl ?_ | exact qO rfl)), (by repeat (first | with_reducible (first | exact qS | assumption) | refine qN rfl ?_ | exact qO rfl)), (by repeat (first | with_reducible (first | exact qS | assumption) | refine qN rfl ?_ | exact qO rfl)), (by repeat (first | with_reducible (first | exact qS | assumption) | refine qN rfl ?_ | exact qO rfl)), rfl⟩
    clear f0 f1 f10 f11
    rename_i k0 _
    obtain ⟨j, c2, hk2, hc2, hcb, f0, f1, f10, f11, f21, rfl⟩ := hI
    refine Gives.seq ?_
    refine Gives.region [.p 0] (by kernel_rfl) ?_
    refine RP.p rfl (op_bin (qT (by repeat (first | with_reducible (first | exact qS | assumption) | refine qN rfl ?_ | exact qO rfl))) (show ev _ _ = some (.int .i64 (.ofNat 8)) from rfl) bin_lssN ?_)
    refine RP.nil ?_
    refine Gives.seq ?_
    refine Gives.cond (qT (by repeat (first | with_reducible (first | exact qS | assumption) | refine qN rfl ?_ | exact qO rfl))) (fun hb => ?_) (fun hb => ?_)
    · have hj : j < 8 := of_decide_eq_true hb
      obtain ⟨k, rfl⟩ : ∃ m, k = m + 1 := ⟨k - 1, by omega⟩
      have hh : c2 / 2 ^ 1 < 4294967296 := by omega
      refine Gives.skip ?_
      refine Gives.seq ?_
      refine Gives.block ?_
      refine Gives.seq ?_
      refine Gives.region [.p 0, .p 1, .p 2] (by kernel_rfl) ?_
      refine RP.p rfl (op_move (qT (by repeat (first | with_reducible (first | exact qS | assumption) | refine qN rfl ?_ | exact qO rfl))) ?_)
      refine RP.p rfl (op_bin (qT (by repeat (first | with_reducible (first | exact qS | assumption) | refine qN rfl ?_ | exact qO rfl))) (show ev _ _ = some (.int .u32 (.ofNat 1)) from rfl) (bin_and (by have e1 : topK .i64 = 9223372036854775808 := rfl; have e2 : topK .u32 = 4294967296 := rfl; have e3 : topK .u64 = 18446744073709551616 := rfl; have e4 : topK .u8 = 256 := rfl; have e5 : topK .u16 = 65536 := rfl; omega) (by have e1 : topK .i64 = 9223372036854775808 := rfl; have e2 : topK .u32 = 4294967296 := rfl; have e3 : topK .u64 = 18446744073709551616 := rfl; have e4 : topK .u8 = 256 := rfl; have e5 : topK .u16 = 65536 := rfl; omega)) ?_)
      refine RP.p rfl (op_assign (qT (by repeat (first | with_reducible (first | exact qS | assumption) | refine qN rfl ?_ | exact qO rfl))) ?_)
      refine RP.nil ?_
      refine Gives.seq ?_
      refine Gives.region [.p 0, .p 1, .p 2] (by kernel_rfl) ?_
      refine RP.p rfl (op_move (qT (by repeat (first | with_reducible (first | exact qS | assumption) | refine qN rfl ?_ | exact qO rfl))) ?_)
      refine RP.p rfl (op_bin (qT (by repeat (first | with_reducible (first | exact qS | assumption) | refine qN rfl ?_ | exact qO rfl))) (show ev _ _ = some (.int .u64 (.ofNat 1)) from rfl) (bin_shr (by show _ ≤ _; decide)) ?_)
      refine RP.p rfl (op_assign (qT (by repeat (first | with_reducible (first | exact qS | assumption) | refine qN rfl ?_ | exact qO rfl))) ?_)
      refine RP.nil ?_
      refine Gives.seq ?_
      refine Gives.region [.p 0, .p 1] (by kernel_rfl) ?_
      refine RP.p rfl (op_move (qT (by repeat (first | with_reducible (first | exact qS | assumption) | refine qN rfl ?_ | exact qO rfl))) ?_)
      refine RP.p rfl (op_bin (qT (by repeat (first | with_reducible (first | exact qS | assumption) | refine qN rfl ?_ | exact qO rfl))) (show ev _ _ = some (.int .u32 (.ofNat 1)) from rfl) bin_eqlN ?_)
      refine RP.nil ?_
      refine Gives.cond (qT (by repeat (first | with_reducible (first | exact qS | assumption) | refine qN rfl ?_ | exact qO rfl))) (fun hb => ?_) (fun hb => ?_)
      · have h1 : Nat.beq (c2 &&& 1) 1 = true := by simpa using hb
        refine Gives.region [.p 0, .p 1, .p 2] (by kernel_rfl) ?_
        refine RP.p rfl (op_move (qT (by repeat (first | with_reducible (first | exact qS | assumption) | refine qN rfl ?_ | exact qO rfl))) ?_)
        refine RP.p rfl (op_bin (qT (by repeat (first | with_reducible (first | exact qS | assumption) | refine qN rfl ?_ | exact qO rfl))) (show ev _ _ = some (.int .u32 (.ofNat 2197175160)) from rfl) (bin_xor (by have e1 : topK .i64 = 9223372036854775808 := rfl; have e2 : topK .u32 = 4294967296 := rfl; have e3 : topK .u64 = 18446744073709551616 := rfl; have e4 : topK .u8 = 256 := rfl; have e5 : topK .u16 = 65536 := rfl; omega) (by have e1 : topK .i64 = 9223372036854775808 := rfl; have e2 : topK .u32 = 4294967296 := rfl; have e3 : topK .u64 = 18446744073709551616 := rfl; have e4 : topK .u8 = 256 := rfl; have e5 : topK .u16 = 65536 := rfl; omega)) ?_)
        refine RP.p rfl (op_assign (qT (by repeat (first | with_reducible (first | exact qS | assumption) | refine qN rfl ?_ | exact qO rfl))) ?_)
        refine RP.nil ?_
        refine Gives.region [.p 0, .p 1] (by kernel_rfl) ?_
        refine RP.p rfl (op_bin (qT (by repeat (first | with_reducible (first | exact qS | assumption) | refine qN rfl ?_ | exact qO rfl))) (show ev _ _ = some (.int .i64 (.ofNat 1)) from rfl) (bin_add (by have e1 : topK .i64 = 9223372036854775808 := rfl; have e2 : topK .u32 = 4294967296 := rfl; have e3 : topK .u64 = 18446744073709551616 := rfl; have e4 : topK .u8 = 256 := rfl; have e5 : topK .u16 = 65536 := rfl; omega)) ?_)
        refine RP.p rfl (op_move (qT (by repeat (first | with_reducible (first | exact qS | assumption) | refine qN rfl ?_ | exact qO rfl))) ?_)
        refine RP.nil ?_
        refine ⟨k, by omega, j + 1, _, by omega, ?_, ?_, (by repeat (first | with_reducible (first | exact qS | assumption) | refine qN rfl ?_ | exact qO rfl)), (by repeat (first | with_reducible (first | exact qS | assumption) | refine qN rfl ?_ | exact qO rfl)), (by repeat (first | with_reducible (first | exact qS | assumption) | refine qN rfl ?_ | exact qO rfl)), (by repeat (first | with_reducible (first | exact qS | assumption) | refine qN rfl ?_ | exact qO rfl)), (by repeat (first | with_reducible (first | exact qS | assumption) | refine qN rfl ?_ | exact qO rfl)), rfl⟩
        · exact Nat.xor_lt_two_pow (n := 32) hh (by decide)
        · rw [← hcb]; simp only [crcBits, crcBit, h1, cond_true]
      · have h1 : Nat.beq (c2 &&& 1) 1 = false := by
          cases h2 : Nat.beq (c2 &&& 1) 1 with
          | false => rfl
          | true => exact absurd (Nat.eq_of_beq_eq_true h2) (of_decide_eq_false hb)
        refine Gives.skip ?_
        refine Gives.region [.p 0, .p 1] (by kernel_rfl) ?_
        refine RP.p rfl (op_bin (qT (by repeat (first | with_reducible (first | exact qS | assumption) | refine qN rfl ?_ | exact qO rfl))) (show ev _ _ = some (.int .i64 (.ofNat 1)) from rfl) (bin_add (by have e1 : topK .i64 = 9223372036854775808 := rfl; have e2 : topK .u32 = 4294967296 := rfl; have e3 : topK .u64 = 18446744073709551616 := rfl; have e4 : topK .u8 = 256 := rfl; have e5 : topK .u16 = 65536 := rfl; omega)) ?_)
        refine RP.p rfl (op_move (qT (by repeat (first | with_reducible (first | exact qS | assumption) | refine qN rfl ?_ | exact qO rfl))) ?_)
        refine RP.nil ?_
        refine ⟨k, by omega, j + 1, _, by omega, hh, ?_, (by repeat (first | with_reducible (first | exact qS | assumption) | refine qN rfl ?_ | exact qO rfl)), (by repeat (first | with_reducible (first | exact qS | assumption) | refine qN rfl ?_ | exact qO rfl)), (by repeat (first | with_reducible (first | exact qS | assumption) | refine qN rfl ?_ | exact qO rfl)), (by repeat (first | with_reducible (first | exact qS | assumption) | refine qN rfl ?_ | exact qO rfl)), (by repeat (first | with_reducible (first | exact qS | assumption) | refine qN rfl ?_ | exact qO rfl)), rfl⟩
        rw [← hcb]; simp only [crcBits, crcBit, h1, cond_false]
    · have hj : ¬ j < 8 := of_decide_eq_false hb
      obtain rfl : k = 0 := by omega
      refine Gives.exit_same ?_
      refine Gives.region [.p 0, .p 1] (by kernel_rfl) ?_
      refine RP.p rfl (op_bin (qT (by repeat (first | with_reducible (first | exact qS | assumption) | refine qN rfl ?_ | exact qO rfl))) (show ev _ _ = some (.int .i64 (.ofNat 1)) from rfl) (bin_add (by have e1 : topK .i64 = 9223372036854775808 := rfl; have e2 : topK .u32 = 4294967296 := rfl; have e3 : topK .u64 = 18446744073709551616 := rfl; have e4 : topK .u8 = 256 := rfl; have e5 : topK .u16 = 65536 := rfl; omega)) ?_)
      refine RP.p rfl (op_move (qT (by repeat (first | with_reducible (first | exact qS | assumption) | refine qN rfl ?_ | exact qO rfl))) ?_)
      refine RP.nil ?_
      refine ⟨_, Nat.lt_succ_self _, i + 1, c2, by omega, hc2, ?_, (by repeat (first | with_reducible (first | exact qS | assumption) | refine qN rfl ?_ | exact qO rfl)), (by repeat (first | with_reducible (first | exact qS | assumption) | refine qN rfl ?_ | exact qO rfl)), (by repeat (first | with_reducible (first | exact qS | assumption) | refine qN rfl ?_ | exact qO rfl)), (by repeat (first | with_reducible (first | exact qS | assumption) | refine qN rfl ?_ | exact qO rfl)), rfl⟩
      rw [← hcr]
      have : c2 = crcBits 8 (c' ^^^ l[i]) := hcb
      rw [this]; rfl
  · have hi : ¬ i < l.length := of_decide_eq_false hb
    obtain rfl : k = 0 := by omega
    have hc2 : c' = crcL l (4294967295 ^^^ c) := by
      rw [List.drop_eq_nil_of_le (by omega)] at hcr; exact hcr
    refine Gives.exit_same ?_
    refine Gives.seq ?_
    refine Gives.region [.p 0, .p 1, .p 2] (by kernel_rfl) ?_
    refine RP.p rfl (op_move (qT (by repeat (first | with_reducible (first | exact qS | assumption) | refine qN rfl ?_ | exact qO rfl))) ?_)
    refine RP.p rfl (op_neg32 (qT (by repeat (first | with_reducible (first | exact qS | assumption) | refine qN rfl ?_ | exact qO rfl))) (by omega) ?_)
    refine RP.p rfl (op_assign (qT (by repeat (first | with_reducible (first | exact qS | assumption) | refine qN rfl ?_ | exact qO rfl))) ?_)
    refine RP.nil ?_
    exact Gives.ret0 (RS.one (by repeat (first | with_reducible (first | exact qS | assumption) | refine qN rfl ?_ | exact qO rfl)) ⟨by rw [hc2]; rfl, rfl⟩)
def crc16Bit (c : Nat) : Nat := bif Nat.beq (c / 2 ^ 15) 1 then (c * 2 ^ 1 % 65536) ^^^ 4129 else c * 2 ^ 1 % 65536
def crc16Bits : Nat → Nat → Nat
  | 0, c => c
  | n + 1, c => crc16Bits n (crc16Bit c)
def crc16L : List Nat → Nat → Nat
  | [], c => c
  | x :: r, c => crc16L r (crc16Bits 8 (c ^^^ x * 2 ^ 8))
theorem crc16_spec {d : Nat} (hS : SOk S) (c : Nat) (hc : c < 65536) (b o cp : Nat) (ex : Bool) (l : List Nat) (hl : ∀ x ∈ l, x < 256) (hcp : l.length ≤ cp) (hlen : l.length < 9223372036854775807) (hL : l.length + 10 < L) (hlb : LB h b o l) :
    CS Tryz.prog X S L (d + 1) 446 [.int .u16 (.ofNat c), .slice b o l.length cp 1 ex] h (fun v h' => v = .int .u16 (.ofNat (crc16L l c)) ∧ h = h') := by
  refine CS.of (rs := [.tmp 4]) (hS.none _ (by decide) (by decide)) Tryz.func446 rfl rfl ?_
  refine Gives.seq ?_
  refine Gives.region [.p 0] (by kernel_rfl) ?_
  refine RP.p rfl (op_assign (show ev _ _ = some (.int .u16 (.ofNat 0)) from rfl) ?_)
  refine RP.nil ?_
  refine Gives.seq ?_
  refine Gives.seq ?_
  refine Gives.region [.p 0, .p 1, .p 2] (by kernel_rfl) ?_
  refine RP.p rfl (op_move (qT (by repeat (first | with_reducible (first | exact qS | assumption) | refine qN rfl ?_ | exact qO rfl))) ?_)
  refine RP.p rfl (op_len_slice (qT (by repeat (first | with_reducible (first | exact qS | assumption) | refine qN rfl ?_ | exact qO rfl))) Tryz.underlying26 ?_)
  refine RP.p rfl (op_move (show ev _ _ = some (.int .i64 (.ofNat 0)) from rfl) ?_)
  refine RP.nil ?_
  refine Gives.block ?_
  refine Gives.loop (I := fun k F h' => ∃ i c', k + i = l.length ∧ c' < 65536 ∧ crc16L (l.drop i) c' = crc16L l c ∧ F.at 0 = some (.int .u16 (.ofNat c')) ∧ F.at 8 = some (.slice b o l.length cp 1 ex) ∧ F.at 9 = some (.int .i64 (.ofNat l.length)) ∧ F.at 10 = some (.int .i64 (.ofNat i)) ∧ h = h')
    (fun k F h' hI => ?_) (k := l.length) (by omega) ⟨0, _, rfl, hc, rfl, (by repeat (first | with_reducible (first | exact qS | assumption) | refine qN rfl ?_ | exact qO rfl)), (by repeat (first | with_reducible (first | exact qS | assumption) | refine qN rfl ?_ | exact qO rfl)), (by repeat (first | with_reducible (first | exact qS | assumption) | refine qN rfl ?_ | exact qO rfl)), (by repeat (first | with_reducible (first | exact qS | assumption) | refine qN rfl ?_ | exact qO rfl)), rfl⟩
  obtain ⟨i, c', hk, hc', hcr, f0, f5, f6, f7, rfl⟩ := hI
  refine Gives.seq ?_
  refine Gives.region [.p 0] (by kernel_rfl) ?_
  refine RP.p rfl (op_bin (qT (by repeat (first | with_reducible (first | exact qS | assumption) | refine qN rfl ?_ | exact qO rfl))) (qT (by repeat (first | with_reducible (first | exact qS | assumption) | refine qN rfl ?_ | exact qO rfl))) bin_lssN ?_)
  refine RP.nil ?_
  refine Gives.seq ?_
  refine Gives.cond (qT (by repeat (first | with_reducible (first | exact qS | assumption) | refine qN rfl ?_ | exact qO rfl))) (fun hb => ?_) (fun hb => ?_)
  · have hi : i < l.length := of_decide_eq_true hb
    obtain ⟨k, rfl⟩ : ∃ m, k = m + 1 := ⟨k - 1, by omega⟩
    have hx : l[i] < 256 := hl _ (List.getElem_mem hi)
    have hxl := hlb i l[i] (List.getElem?_eq_getElem hi)
    have hdr : l.drop i = l[i] :: l.drop (i + 1) := List.drop_eq_getElem_cons hi
    rw [hdr] at hcr
    refine Gives.skip ?_
    refine Gives.seq ?_
    refine Gives.block ?_
    refine Gives.seq ?_
    refine Gives.region [.p 0, .r 1, .p 2] (by kernel_rfl) ?_
    refine RP.p rfl (op_indexAddr (qT (by repeat (first | with_reducible (first | exact qS | assumption) | refine qN rfl ?_ | exact qO rfl))) (qT (by repeat (first | with_reducible (first | exact qS | assumption) | refine qN rfl ?_ | exact qO rfl))) Tryz.underlying26 (by kernel_rfl) hi hcp ?_)
    refine RP.r rfl (op_load (qT (by repeat (first | with_reducible (first | exact qS | assumption) | refine qN rfl ?_ | exact qO rfl))) (by rw [Nat.mul_one]; exact hxl) ?_)
    refine RP.p rfl (op_assign (qT (by repeat (first | with_reducible (first | exact qS | assumption) | refine qN rfl ?_ | exact qO rfl))) ?_)
    refine RP.nil ?_
    refine Gives.seq ?_
    have hx8 : l[i] * 2 ^ 8 < 65536 := by omega
    refine Gives.region [.p 0, .p 1, .p 2, .p 3, .p 4, .p 5] (by kernel_rfl) ?_
    refine RP.p rfl (op_move (qT (by repeat (first | with_reducible (first | exact qS | assumption) | refine qN rfl ?_ | exact qO rfl))) ?_)
    refine RP.p rfl (op_move (qT (by repeat (first | with_reducible (first | exact qS | assumption) | refine qN rfl ?_ | exact qO rfl))) ?_)
    refine RP.p rfl (op_conv (qT (by repeat (first | with_reducible (first | exact qS | assumption) | refine qN rfl ?_ | exact qO rfl))) Tryz.underlying5 Tryz.underlying591 (by have e1 : topK .i64 = 9223372036854775808 := rfl; have e2 : topK .u32 = 4294967296 := rfl; have e3 : topK .u64 = 18446744073709551616 := rfl; have e4 : topK .u8 = 256 := rfl; have e5 : topK .u16 = 65536 := rfl; omega) ?_)
    refine RP.p rfl (op_bin (qT (by repeat (first | with_reducible (first | exact qS | assumption) | refine qN rfl ?_ | exact qO rfl))) (show ev _ _ = some (.int .u64 (.ofNat 8)) from rfl) (bin_shl (by show _ ≤ _; decide) (by have e1 : topK .i64 = 9223372036854775808 := rfl; have e2 : topK .u32 = 4294967296 := rfl; have e3 : topK .u64 = 18446744073709551616 := rfl; have e4 : topK .u8 = 256 := rfl; have e5 : topK .u16 = 65536 := rfl; omega)) ?_)
    refine RP.p rfl (op_bin (qT (by repeat (first | with_reducible (first | exact qS | assumption) | refine qN rfl ?_ | exact qO rfl))) (qT (by repeat (first | with_reducible (first | exact qS | assumption) | refine qN rfl ?_ | exact qO rfl))) (bin_xor (by have e1 : topK .i64 = 9223372036854775808 := rfl; have e2 : topK .u32 = 4294967296 := rfl; have e3 : topK .u64 = 18446744073709551616 := rfl; have e4 : topK .u8 = 256 := rfl; have e5 : topK .u16 = 65536 := rfl; omega) (by have e1 : topK .i64 = 9223372036854775808 := rfl; have e2 : topK .u32 = 4294967296 := rfl; have e3 : topK .u64 = 18446744073709551616 := rfl; have e4 : topK .u8 = 256 := rfl; have e5 : topK .u16 = 65536 := rfl; omega)) ?_)
    refine RP.p rfl (op_assign (qT (by repeat (first | with_reducible (first | exact qS | assumption) | refine qN rfl ?_ | exact qO rfl))) ?_)
    refine RP.nil ?_
    have hcx : c' ^^^ l[i] * 2 ^ 8 < 65536 := Nat.xor_lt_two_pow (n := 16) hc' hx8
    refine Gives.seq ?_
    refine Gives.region [.p 0] (by kernel_rfl) ?_
    refine RP.p rfl (op_move (show ev _ _ = some (.int .i64 (.ofNat 0)) from rfl) ?_)
    refine RP.nil ?_
    refine Gives.block ?_
    refine Gives.loop (I := fun k F h' => ∃ j c2, k + j = 8 ∧ c2 < 65536 ∧ crc16Bits k c2 = crc16Bits 8 (c' ^^^ l[i] * 2 ^ 8) ∧ F.at 0 = some (.int .u16 (.ofNat c2)) ∧ F.at 8 = some (.slice b o l.length cp 1 ex) ∧ F.at 9 = some (.int .i64 (.ofNat l.length)) ∧ F.at 10 = some (.int .i64 (.ofNat i)) ∧ F.at 19 = some (.int .i64 (.ofNat j)) ∧ h = h')
      (fun k F h' hI => ?_) (k := 8) (by omega) ⟨0, _, rfl, hcx, rfl, (by repeat (first | with_reducible (first | exact qS | assumption) | refine qN rfl ?_ | exact qO rfl)), (by repeat (first | with_reducible (first | exact qS | assumption) | refine qN rfl ?_ | exact qO rfl)), (by repeat (first | with_reducible (first | exact qS | assumption) | refine qN rfl ?_ | exact qO rfl)), (by repeat (first | with_reducible (first | exact qS | assumption) | refine qN rfl ?_ | exact qO rfl)), (by repeat (first | with_reducible (first | exact qS | assumption) | refine qN rfl ?_ | exact qO rfl)), rfl⟩
    clear f0 f5 f6 f7
    rename_i k0 _
    obtain ⟨j, c2, hk2, hc2, hcb, f0, f5, f6, f7, f21, rfl⟩ := hI
    refine Gives.seq ?_
    refine Gives.region [.p 0] (by kernel_rfl) ?_
    refine RP.p rfl (op_bin (qT (by repeat (first | with_reducible (first | exact qS | assumption) | refine qN rfl ?_ | exact qO rfl))) (show ev _ _ = some (.int .i64 (.ofNat 8)) from rfl) bin_lssN ?_)
    refine RP.nil ?_
    refine Gives.seq ?_
    refine Gives.cond (qT (by repeat (first | with_reducible (first | exact qS | assumption) | refine qN rfl ?_ | exact qO rfl))) (fun hb => ?_) (fun hb => ?_)
    · have hj : j < 8 := of_decide_eq_true hb
      obtain ⟨k, rfl⟩ : ∃ m, k = m + 1 := ⟨k - 1, by omega⟩
      have hh : c2 * 2 ^ 1 % 65536 < 65536 := Nat.mod_lt _ (by decide)
      refine Gives.skip ?_
      refine Gives.seq ?_
      refine Gives.block ?_
      refine Gives.seq ?_
      refine Gives.region [.p 0, .p 1, .p 2] (by kernel_rfl) ?_
      refine RP.p rfl (op_move (qT (by repeat (first | with_reducible (first | exact qS | assumption) | refine qN rfl ?_ | exact qO rfl))) ?_)
      refine RP.p rfl (op_bin (qT (by repeat (first | with_reducible (first | exact qS | assumption) | refine qN rfl ?_ | exact qO rfl))) (show ev _ _ = some (.int .u64 (.ofNat 15)) from rfl) (bin_shr (by show _ ≤ _; decide)) ?_)
      refine RP.p rfl (op_assign (qT (by repeat (first | with_reducible (first | exact qS | assumption) | refine qN rfl ?_ | exact qO rfl))) ?_)
      refine RP.nil ?_
      refine Gives.seq ?_
      refine Gives.region [.p 0, .p 1, .p 2] (by kernel_rfl) ?_
      refine RP.p rfl (op_move (qT (by repeat (first | with_reducible (first | exact qS | assumption) | refine qN rfl ?_ | exact qO rfl))) ?_)
      refine RP.p rfl (op_bin (qT (by repeat (first | with_reducible (first | exact qS | assumption) | refine qN rfl ?_ | exact qO rfl))) (show ev _ _ = some (.int .u64 (.ofNat 1)) from rfl) (bin_shl_u16 (by decide)) ?_)
      refine RP.p rfl (op_assign (qT (by repeat (first | with_reducible (first | exact qS | assumption) | refine qN rfl ?_ | exact qO rfl))) ?_)
      refine RP.nil ?_
      refine Gives.seq ?_
      refine Gives.region [.p 0, .p 1] (by kernel_rfl) ?_
      refine RP.p rfl (op_move (qT (by repeat (first | with_reducible (first | exact qS | assumption) | refine qN rfl ?_ | exact qO rfl))) ?_)
      refine RP.p rfl (op_bin (qT (by repeat (first | with_reducible (first | exact qS | assumption) | refine qN rfl ?_ | exact qO rfl))) (show ev _ _ = some (.int .u16 (.ofNat 1)) from rfl) bin_eqlN ?_)
      refine RP.nil ?_
      refine Gives.cond (qT (by repeat (first | with_reducible (first | exact qS | assumption) | refine qN rfl ?_ | exact qO rfl))) (fun hb => ?_) (fun hb => ?_)
      · have h1 : Nat.beq (c2 / 2 ^ 15) 1 = true := by simpa using hb
        refine Gives.region [.p 0, .p 1, .p 2] (by kernel_rfl) ?_
        refine RP.p rfl (op_move (qT (by repeat (first | with_reducible (first | exact qS | assumption) | refine qN rfl ?_ | exact qO rfl))) ?_)
        refine RP.p rfl (op_bin (qT (by repeat (first | with_reducible (first | exact qS | assumption) | refine qN rfl ?_ | exact qO rfl))) (show ev _ _ = some (.int .u16 (.ofNat 4129)) from rfl) (bin_xor hh (by show _ < _; decide)) ?_)
        refine RP.p rfl (op_assign (qT (by repeat (first | with_reducible (first | exact qS | assumption) | refine qN rfl ?_ | exact qO rfl))) ?_)
        refine RP.nil ?_
        refine Gives.region [.p 0, .p 1] (by kernel_rfl) ?_
        refine RP.p rfl (op_bin (qT (by repeat (first | with_reducible (first | exact qS | assumption) | refine qN rfl ?_ | exact qO rfl))) (show ev _ _ = some (.int .i64 (.ofNat 1)) from rfl) (bin_add (by have e1 : topK .i64 = 9223372036854775808 := rfl; have e2 : topK .u32 = 4294967296 := rfl; have e3 : topK .u64 = 18446744073709551616 := rfl; have e4 : topK .u8 = 256 := rfl; have e5 : topK .u16 = 65536 := rfl; omega)) ?_)
        refine RP.p rfl (op_move (qT (by repeat (first | with_reducible (first | exact qS | assumption) | refine qN rfl ?_ | exact qO rfl))) ?_)
        refine RP.nil ?_
        refine ⟨k, by omega, j + 1, _, by omega, ?_, ?_, (by repeat (first | with_reducible (first | exact qS | assumption) | refine qN rfl ?_ | exact qO rfl)), (by repeat (first | with_reducible (first | exact qS | assumption) | refine qN rfl ?_ | exact qO rfl)), (by repeat (first | with_reducible (first | exact qS | assumption) | refine qN rfl ?_ | exact qO rfl)), (by repeat (first | with_reducible (first | exact qS | assumption) | refine qN rfl ?_ | exact qO rfl)), (by repeat (first | with_reducible (first | exact qS | assumption) | refine qN rfl ?_ | exact qO rfl)), rfl⟩
        · exact Nat.xor_lt_two_pow (n := 16) hh (by decide)
        · rw [← hcb]; simp only [crc16Bits, crc16Bit, h1, cond_true]
      · have h1 : Nat.beq (c2 / 2 ^ 15) 1 = false := by
          cases h2 : Nat.beq (c2 / 2 ^ 15) 1 with
          | false => rfl
          | true => exact absurd (Nat.eq_of_beq_eq_true h2) (of_decide_eq_false hb)
        refine Gives.skip ?_
        refine Gives.region [.p 0, .p 1] (by kernel_rfl) ?_
        refine RP.p rfl (op_bin (qT (by repeat (first | with_reducible (first | exact qS | assumption) | refine qN rfl ?_ | exact qO rfl))) (show ev _ _ = some (.int .i64 (.ofNat 1)) from rfl) (bin_add (by have e1 : topK .i64 = 9223372036854775808 := rfl; have e2 : topK .u32 = 4294967296 := rfl; have e3 : topK .u64 = 18446744073709551616 := rfl; have e4 : topK .u8 = 256 := rfl; have e5 : topK .u16 = 65536 := rfl; omega)) ?_)
        refine RP.p rfl (op_move (qT (by repeat (first | with_reducible (first | exact qS | assumption) | refine qN rfl ?_ | exact qO rfl))) ?_)
        refine RP.nil ?_
        refine ⟨k, by omega, j + 1, _, by omega, hh, ?_, (by repeat (first | with_reducible (first | exact qS | assumption) | refine qN rfl ?_ | exact qO rfl)), (by repeat (first | with_reducible (first | exact qS | assumption) | refine qN rfl ?_ | exact qO rfl)), (by repeat (first | with_reducible (first | exact qS | assumption) | refine qN rfl ?_ | exact qO rfl)), (by repeat (first | with_reducible (first | exact qS | assumption) | refine qN rfl ?_ | exact qO rfl)), (by repeat (first | with_reducible (first | exact qS | assumption) | refine qN rfl ?_ | exact qO rfl)), rfl⟩
        rw [← hcb]; simp only [crc16Bits, crc16Bit, h1, cond_false]
    · have hj : ¬ j < 8 := of_decide_eq_false hb
      obtain rfl : k = 0 := by omega
      refine Gives.exit_same ?_
      refine Gives.region [.p 0, .p 1] (by kernel_rfl) ?_
      refine RP.p rfl (op_bin (qT (by repeat (first | with_reducible (first | exact qS | assumption) | refine qN rfl ?_ | exact qO rfl))) (show ev _ _ = some (.int .i64 (.ofNat 1)) from rfl) (bin_add (by have e1 : topK .i64 = 9223372036854775808 := rfl; have e2 : topK .u32 = 4294967296 := rfl; have e3 : topK .u64 = 18446744073709551616 := rfl; have e4 : topK .u8 = 256 := rfl; have e5 : topK .u16 = 65536 := rfl; omega)) ?_)
      refine RP.p rfl (op_move (qT (by repeat (first | with_reducible (first | exact qS | assumption) | refine qN rfl ?_ | exact qO rfl))) ?_)
      refine RP.nil ?_
      refine ⟨_, Nat.lt_succ_self _, i + 1, c2, by omega, hc2, ?_, (by repeat (first | with_reducible (first | exact qS | assumption) | refine qN rfl ?_ | exact qO rfl)), (by repeat (first | with_reducible (first | exact qS | assumption) | refine qN rfl ?_ | exact qO rfl)), (by repeat (first | with_reducible (first | exact qS | assumption) | refine qN rfl ?_ | exact qO rfl)), (by repeat (first | with_reducible (first | exact qS | assumption) | refine qN rfl ?_ | exact qO rfl)), rfl⟩
      rw [← hcr]
      have : c2 = crc16Bits 8 (c' ^^^ l[i] * 2 ^ 8) := hcb
      rw [this]; rfl
  · have hi : ¬ i < l.length := of_decide_eq_false hb
    obtain rfl : k = 0 := by omega
    have hc2 : c' = crc16L l c := by
      rw [List.drop_eq_nil_of_le (by omega)] at hcr; exact hcr
    refine Gives.exit_same ?_
    refine Gives.seq ?_
    refine Gives.region [.p 0, .p 1] (by kernel_rfl) ?_
    refine RP.p rfl (op_move (qT (by repeat (first | with_reducible (first | exact qS | assumption) | refine qN rfl ?_ | exact qO rfl))) ?_)
    refine RP.p rfl (op_assign (qT (by repeat (first | with_reducible (first | exact qS | assumption) | refine qN rfl ?_ | exact qO rfl))) ?_)
    refine RP.nil ?_
    exact Gives.ret0 (RS.one (by repeat (first | with_reducible (first | exact qS | assumption) | refine qN rfl ?_ | exact qO rfl)) ⟨by rw [hc2], rfl⟩)
end Go.Abs

/- The functions without a body, of this seat's program. No condition. -/
namespace Go.Abs
open Go.Proofs
noncomputable def seatX : Ext0 := fun f =>
  bif Nat.beq f 286 then some cloneA else bif Nat.beq f 450 then some noZeroA else bif Nat.beq f 519 then some countA else none
theorem seatX_sound : ExtSound Tryz.prog seatX := by
  intro f x args h v h' hx he ι w us r hv
  unfold seatX at hx
  simp only [Bool.cond_eq_ite, Nat.beq_eq] at hx
  split at hx
  · rename_i hf; cases hx
    obtain rfl : f = 286 := by simpa using hf
    obtain ⟨ι', u, w', g1, g2, g3, g4⟩ := cloneA_spec (P := Tryz.prog) he r hv
    exact ⟨ι', u, w', g1, g2, g3, run_ext Tryz.func286 (by kernel_rfl) rfl (by kernel_rfl) (by kernel_rfl) _ g4⟩
  · split at hx
    · rename_i hf; cases hx
      obtain rfl : f = 450 := by simpa using hf
      obtain ⟨ι', u, w', g1, g2, g3, g4⟩ := noZeroA_spec (P := Tryz.prog) (ps := Tryz.f450.params) (t := 26) (e := 5) he Tryz.underlying26 r hv
      exact ⟨ι', u, w', g1, g2, g3, run_ext Tryz.func450 (by kernel_rfl) rfl (by kernel_rfl) (by kernel_rfl) _ g4⟩
    · split at hx
      · rename_i hf; cases hx
        obtain rfl : f = 519 := by simpa using hf
        obtain ⟨ι', u, w', g1, g2, g3, g4⟩ := countA_spec (P := Tryz.prog) he r hv
        exact ⟨ι', u, w', g1, g2, g3, run_ext Tryz.func519 (by kernel_rfl) rfl (by kernel_rfl) (by kernel_rfl) _ g4⟩
      · cases hx
end Go.Abs

/- The shelf's layings at this seat, in plain words: maps.Keys, slices.Sorted and slices.Sort at int. -/
namespace Go.Proofs
open Go.RowKit Go.Maps Go.Sort Go.Shelf
def Tryz.keysA_ren : Go.Shelf.Ren := ⟨fun | 7 => 169 | 10 => 258 | n => n, fun | 23 => 265 | 26 => 3 | 3 => 335 | 28 => 332 | 0 => 0 | 27 => 331 | 33 => 114 | 4 => 4 | n => n, fun | n => n⟩
theorem Tryz.keysA : Go.Proofs.SlLaysZI.n7 Tryz.prog Tryz.keysA_ren := {
  mixed := by kernel_rfl
  f7 := ⟨Tryz.f169.name, by decide, Tryz.func169.trans (congrArg some (by kernel_rfl))⟩
  f10 := ⟨Tryz.f258.name, by decide, Tryz.func258.trans (congrArg some (by kernel_rfl))⟩
  t0 := Tryz.underlying0
  a0 := Tryz.isAgg0
  z0 := Tryz.sizeOf0
  v0 := Tryz.zeroValue0
  t4 := Tryz.underlying4
  a4 := Tryz.isAgg4
  z4 := Tryz.sizeOf4
  v4 := Tryz.zeroValue4
  t23 := Tryz.underlying265
  a23 := Tryz.isAgg265
  z23 := Tryz.sizeOf265
  v23 := Tryz.zeroValue265
  t26 := Tryz.underlying3
  a26 := Tryz.isAgg3
  z26 := Tryz.sizeOf3
  v26 := Tryz.zeroValue3
  t27 := Tryz.underlying331
  a27 := Tryz.isAgg331
  z27 := Tryz.sizeOf331
  v27 := Tryz.zeroValue331
  t28 := Tryz.underlying332
  a28 := Tryz.isAgg332
  z28 := Tryz.sizeOf332
  v28 := Tryz.zeroValue332
  t33 := Tryz.underlying114
  a33 := Tryz.isAgg114
  z33 := Tryz.sizeOf114
  v33 := Tryz.zeroValue114 }
def Tryz.sortedA_ren : Go.Shelf.Ren := ⟨fun | 6 => 168 | 8 => 256 | 9 => 257 | 11 => 377 | 13 => 346 | 12 => 378 | 23 => 441 | 24 => 442 | 14 => 470 | 15 => 471 | 16 => 472 | 17 => 473 | 18 => 474 | 19 => 475 | 20 => 431 | 21 => 476 | 22 => 477 | 25 => 544 | 26 => 522 | 27 => 523 | 28 => 545 | 29 => 546 | 30 => 443 | 31 => 598 | n => n, fun | 26 => 3 | 28 => 332 | 24 => 22 | 0 => 0 | 3 => 3 | 37 => 115 | 48 => 35 | 50 => 70 | 4 => 4 | 40 => 672 | 39 => 671 | 45 => 409 | 5 => 5 | 9 => 9 | 51 => 737 | 55 => 741 | 57 => 772 | 58 => 336 | 33 => 114 | n => n, fun | n => n⟩
theorem Tryz.sortedA : Go.Proofs.SlLaysZI.n6 Tryz.prog Tryz.sortedA_ren := {
  mixed := by kernel_rfl
  f6 := ⟨Tryz.f168.name, by decide, Tryz.func168.trans (congrArg some (by kernel_rfl))⟩
  f8 := ⟨Tryz.f256.name, by decide, Tryz.func256.trans (congrArg some (by kernel_rfl))⟩
  f11 := ⟨Tryz.f377.name, by decide, Tryz.func377.trans (congrArg some (by kernel_rfl))⟩
  t0 := Tryz.underlying0
  a0 := Tryz.isAgg0
  z0 := Tryz.sizeOf0
  v0 := Tryz.zeroValue0
  t24 := Tryz.underlying22
  a24 := Tryz.isAgg22
  z24 := Tryz.sizeOf22
  v24 := Tryz.zeroValue22
  t26 := Tryz.underlying3
  a26 := Tryz.isAgg3
  z26 := Tryz.sizeOf3
  v26 := Tryz.zeroValue3
  t28 := Tryz.underlying332
  a28 := Tryz.isAgg332
  z28 := Tryz.sizeOf332
  v28 := Tryz.zeroValue332
  i26 := by kernel_rfl }
def Tryz.sortA_ren : Go.Shelf.Ren := ⟨fun | 5 => 257 | 8 => 346 | 7 => 378 | 19 => 441 | 20 => 442 | 10 => 470 | 11 => 471 | 12 => 472 | 13 => 473 | 14 => 474 | 15 => 475 | 16 => 431 | 17 => 476 | 18 => 477 | 30 => 544 | 31 => 522 | 32 => 523 | 33 => 545 | 34 => 546 | 35 => 443 | 40 => 598 | n => n, fun | 23 => 22 | 25 => 3 | 3 => 3 | 32 => 115 | 22 => 22 | 0 => 0 | 44 => 35 | 46 => 70 | 4 => 4 | 36 => 672 | 35 => 671 | 41 => 409 | 5 => 5 | 9 => 9 | 53 => 737 | 57 => 741 | 63 => 772 | 64 => 336 | n => n, fun | n => n⟩
theorem Tryz.sortA : Go.Proofs.SlLaysM.n5 Tryz.prog Tryz.sortA_ren := {
  mixed := by kernel_rfl
  f5 := ⟨Tryz.f257.name, by decide, Tryz.func257.trans (congrArg some (by kernel_rfl))⟩
  f7 := ⟨Tryz.f378.name, by decide, Tryz.func378.trans (congrArg some (by kernel_rfl))⟩
  f8 := Tryz.func346.trans (congrArg some (by kernel_rfl))
  f10 := ⟨Tryz.f470.name, by decide, Tryz.func470.trans (congrArg some (by kernel_rfl))⟩
  f11 := ⟨Tryz.f471.name, by decide, Tryz.func471.trans (congrArg some (by kernel_rfl))⟩
  f12 := ⟨Tryz.f472.name, by decide, Tryz.func472.trans (congrArg some (by kernel_rfl))⟩
  f13 := ⟨Tryz.f473.name, by decide, Tryz.func473.trans (congrArg some (by kernel_rfl))⟩
  f14 := ⟨Tryz.f474.name, by decide, Tryz.func474.trans (congrArg some (by kernel_rfl))⟩
  f15 := ⟨Tryz.f475.name, by decide, Tryz.func475.trans (congrArg some (by kernel_rfl))⟩
  f16 := ⟨Tryz.f431.name, by decide, Tryz.func431.trans (congrArg some (by kernel_rfl))⟩
  f17 := ⟨Tryz.f476.name, by decide, Tryz.func476.trans (congrArg some (by kernel_rfl))⟩
  f18 := ⟨Tryz.f477.name, by decide, Tryz.func477.trans (congrArg some (by kernel_rfl))⟩
  f19 := Tryz.func441.trans (congrArg some (by kernel_rfl))
  f20 := Tryz.func442.trans (congrArg some (by kernel_rfl))
  f30 := ⟨Tryz.f544.name, by decide, Tryz.func544.trans (congrArg some (by kernel_rfl))⟩
  f31 := Tryz.func522.trans (congrArg some (by kernel_rfl))
  f32 := Tryz.func523.trans (congrArg some (by kernel_rfl))
  f33 := ⟨Tryz.f545.name, by decide, Tryz.func545.trans (congrArg some (by kernel_rfl))⟩
  f34 := ⟨Tryz.f546.name, by decide, Tryz.func546.trans (congrArg some (by kernel_rfl))⟩
  f35 := ⟨Tryz.f443.name, by decide, Tryz.func443.trans (congrArg some (by kernel_rfl))⟩
  f40 := ⟨Tryz.f598.name, by decide, Tryz.func598.trans (congrArg some (by kernel_rfl))⟩
  t0 := Tryz.underlying0
  a0 := Tryz.isAgg0
  z0 := Tryz.sizeOf0
  v0 := Tryz.zeroValue0
  t3 := Tryz.underlying3
  a3 := Tryz.isAgg3
  z3 := Tryz.sizeOf3
  v3 := Tryz.zeroValue3
  t4 := Tryz.underlying4
  a4 := Tryz.isAgg4
  z4 := Tryz.sizeOf4
  v4 := Tryz.zeroValue4
  t5 := Tryz.underlying5
  a5 := Tryz.isAgg5
  z5 := Tryz.sizeOf5
  v5 := Tryz.zeroValue5
  t9 := Tryz.underlying9
  a9 := Tryz.isAgg9
  z9 := Tryz.sizeOf9
  v9 := Tryz.zeroValue9
  t22 := Tryz.underlying22
  a22 := Tryz.isAgg22
  z22 := Tryz.sizeOf22
  v22 := Tryz.zeroValue22
  t23 := Tryz.underlying22
  a23 := Tryz.isAgg22
  z23 := Tryz.sizeOf22
  v23 := Tryz.zeroValue22
  t25 := Tryz.underlying3
  a25 := Tryz.isAgg3
  z25 := Tryz.sizeOf3
  v25 := Tryz.zeroValue3
  t32 := Tryz.underlying115
  a32 := Tryz.isAgg115
  z32 := Tryz.sizeOf115
  v32 := Tryz.zeroValue115
  t35 := Tryz.underlying671
  a35 := Tryz.isAgg671
  z35 := Tryz.sizeOf671
  v35 := Tryz.zeroValue671
  t36 := Tryz.underlying672
  a36 := Tryz.isAgg672
  z36 := Tryz.sizeOf672
  v36 := Tryz.zeroValue672
  t41 := Tryz.underlying409
  a41 := Tryz.isAgg409
  z41 := Tryz.sizeOf409
  v41 := Tryz.zeroValue409
  t44 := Tryz.underlying35
  a44 := Tryz.isAgg35
  z44 := Tryz.sizeOf35
  v44 := Tryz.zeroValue35
  t46 := Tryz.underlying70
  a46 := Tryz.isAgg70
  z46 := Tryz.sizeOf70
  v46 := Tryz.zeroValue70
  t53 := Tryz.underlying737
  a53 := Tryz.isAgg737
  z53 := Tryz.sizeOf737
  v53 := Tryz.zeroValue737
  t57 := Tryz.underlying741
  a57 := Tryz.isAgg741
  z57 := Tryz.sizeOf741
  v57 := Tryz.zeroValue741
  t63 := Tryz.underlying772
  a63 := Tryz.isAgg772
  z63 := Tryz.sizeOf772
  v63 := Tryz.zeroValue772
  t64 := Tryz.underlying336
  a64 := Tryz.isAgg336
  z64 := Tryz.sizeOf336
  v64 := Tryz.zeroValue336 }
theorem Tryz.sortsA (m : Nat) : AnyZI.SortsIn Tryz.prog Tryz.sortedA_ren Fence.wide m :=
  ⟨fun blk off cap ss W hH hblk hsz => callsIn_wide.2 (AnyM.slices_Sort_int Tryz.sortA blk off cap ss W hH hblk hsz),
   fun p cap W => callsIn_wide.2 (AnyM.slices_Sort_int_none Tryz.sortA p cap W)⟩
end Go.Proofs

/- The keys of a map, handed on one by one: what the library's worked proof shows at the toy ggz, turned to this program, for a box at whatever place of its block. No condition. -/
namespace Go.Proofs
open Go.RowKit Go.Maps Go.Sort Go.Shelf
set_option maxRecDepth 100000 in
set_option maxHeartbeats 1000000 in
theorem Tryz.keysOff_in {H : Type} (F : Fence) (n : Nat) (h10 : F.fn 258) (hro : F.round = none) (hn : 1 ≤ n) (l Bm off b nn : Nat) (D0 : DataW H) {R : Value → Option (DataW H × List MemPlace)} (J : List Int → World → Prop)
    (hY : ∀ pre x W, J pre W → pre.length < Maps.size D0 → YieldAt F (n - 1) Tryz.prog l #[encZ x] W fun e W' => e = .returned (.bool true) ∧ J (pre ++ [x]) W' ∧ KeepsWalks W W')
    (W : World) (hJ : AbidesFrom W.heap.size J) (hm : W.cell? ⟨Bm, off, none⟩ = some (.map (some b))) (hown : W.ownsMap Tryz.prog 3 R b nn D0) (h0 : J [] W) :
    CallsIn F n Tryz.prog 258 #[.func (.yield l) #[] #[], .pointer (some ⟨Bm, off, none⟩)] W fun e W' => (∃ v, e = .returned v) ∧ ∃ ss : List Int, ss.Perm (intKeys D0) ∧ J ss W' := by
  have L : SlLaysZI.n10 Tryz.prog Tryz.keysA_ren := { Tryz.keysA with }
  have mixed := L.mixed; have t0 := L.t0; have a0 := L.a0; have z0 := L.z0; have v0 := L.v0; have t4 := L.t4; have a4 := L.a4; have z4 := L.z4; have v4 := L.v4; have t23 := L.t23; have a23 := L.a23; have z23 := L.z23; have v23 := L.v23; have t26 := L.t26; have a26 := L.a26; have z26 := L.z26; have v26 := L.v26; have t33 := L.t33; have a33 := L.a33; have z33 := L.z33; have v33 := L.v33
  have u0 := run_underlying L.t0; have u4 := run_underlying L.t4; have u23 := run_underlying L.t23; have u26 := run_underlying L.t26; have u33 := run_underlying L.t33
  obtain ⟨_, _, FG⟩ := L.f10
  refine callsIn_of_wp FG rfl h10 ?_ hro
  simp only [SlBodyZ.n10_ntmps Tryz.keysA_ren, List.size_toArray, List.length_cons, List.length_nil, Nat.reduceAdd, Nat.reduceSub, Array.replicate_succ, Array.replicate_zero, List.push_toArray, List.append_toArray, List.nil_append, List.cons_append]
  gi_wp2_with (first
    | (gi_at_range; refine wpListIn_range_own _ rfl _ 265 rfl 3 335 (int_keyed L.t26) L.t23 _ b nn _ rfl hown ?_; intro w0 hrg0 hg0 hs0)
    | gi_in)
  go_frame
  gi_loopw [3] (fun _ wr => ∃ (left : Lit → Bool) (cnt : Nat) (ss : List Int), wr.ranges Tryz.prog 3 R b W.heap.size nn D0 left cnt ∧ ss.length + cnt ≤ Maps.size D0 ∧ CollectedI D0 left ss ∧ J ss wr)
    (fun _ wr => wr.rangeLeft b W.heap.size)
  case atStart =>
    exact ⟨_, _, [], hrg0, by simp, CollectedI.start D0, hJ [] W w0 none h0 hg0 (fun r e => by cases e)⟩
  case round =>
    obtain ⟨left, cnt, ss, hrg, hcs, hC, hJs⟩ := hrel
    gi_wp2_with (first
      | (gi_at_next; refine wpListIn_next_ranges _ rfl _ rfl 3 (int_keyed L.t26) R encZ id (fun key kl hk => by obtain ⟨x, hx, _⟩ := Maps.keyOf_i64 L.t26 hk; exact ⟨x, hx⟩) (fun v _ _ => ⟨v, rfl⟩) b W.heap.size nn _ _ _ rfl hrg ?_ ?_)
      | gi_in)
    · -- NOTHING IS LEFT
      intro hc0 hl0
      gi_wp2
      go_end0
      exact ⟨⟨_, rfl⟩, ss, hC.perm hown (int_keyed L.t26) L.t26 hl0, hJs⟩
    · -- AN ENTRY HAS COME: yield(k)
      intro x c kl yd yp w2 cnt2 hkey hlk hv hat hrg2 hlt hg2 hs2 hen
      obtain ⟨x', ex, rfl, _⟩ := Maps.keyOf_i64 L.t26 hkey
      obtain rfl : x = x' := encZ_inj ex
      have hJ2 : J ss w2 := hJ ss wr w2 (some W.heap.size) hJs hg2 (fun r e => by cases e; exact ⟨Nat.le_refl _, hrg.iter_walk⟩)
      obtain ⟨fn, tmps, assign, body, hy, hR⟩ := hY ss x w2 hJ2 (by omega)
      clear hs2
      gi_wp2
      refine hR.mono ?_
      rintro e W3 ⟨rfl, hJ3, hk3⟩
      gi_wp2
      have hrg3 := hrg2.of_walks hk3
      go_roundw
      case rel => exact ⟨_, cnt2, ss ++ [x], hrg3, by simp; omega, hC.step hlk hat, hJ3⟩
      case measure => rw [hrg3.left_eq, hrg.left_eq]; exact hlt
theorem Tryz.keysOff_gives {H : Type} (F : Fence) (n : Nat) (h10 : F.fn 258) (hro : F.round = none) (hn : 1 ≤ n) (Bm off b nn : Nat) (D0 : DataW H) {R : Value → Option (DataW H × List MemPlace)} (w : World) (hBm : Bm < w.heap.size)
    (hm : w.cell? ⟨Bm, off, none⟩ = some (.map (some b))) (hown : w.ownsMap Tryz.prog 3 R b nn D0) :
    SeqGives F n Tryz.prog 258 #[.pointer (some ⟨Bm, off, none⟩)] encZ (fun ss => ss.Perm (intKeys D0)) (Maps.size D0) w := fun l J W hW hJ hY h0 => by
  have hown' : W.ownsMap Tryz.prog 3 R b nn D0 := by
    have hbl := hown.lt
    obtain ⟨es, clock, hb, Ft, hs, hD⟩ := hown
    exact ⟨es, clock, (hW.block b hbl).trans hb, Ft, hs, hD⟩
  exact Tryz.keysOff_in F n h10 hro hn l Bm off b nn D0 J hY W hJ ((hW.cell (p := ⟨Bm, off, none⟩) hBm).trans hm) hown' h0
end Go.Proofs
