/- Plain laws on bits: counting ones by halves, parity, and that parity is even-handed to exclusive or. No condition. -/
namespace Go.Abs
def bitN (x i : Nat) : Nat := x / 2 ^ i % 2
def sumBits (x : Nat) : Nat → Nat
  | 0 => 0
  | n + 1 => sumBits x n + bitN x n
def par (x : Nat) : Nat := sumBits x 64 % 2
theorem bitN_testBit (x i : Nat) : bitN x i = (x.testBit i).toNat := by
  unfold bitN
  rw [Nat.testBit_eq_decide_div_mod_eq]
  rcases Nat.mod_two_eq_zero_or_one (x / 2 ^ i) with h | h <;> simp [h]
theorem bitN_xor (x y i : Nat) : bitN (x ^^^ y) i = (bitN x i + bitN y i) % 2 := by
  simp only [bitN_testBit, Nat.testBit_xor]
  cases x.testBit i <;> cases y.testBit i <;> rfl
theorem sumBits_xor (x y : Nat) : ∀ n, sumBits (x ^^^ y) n % 2 = (sumBits x n + sumBits y n) % 2
  | 0 => rfl
  | n + 1 => by
    have h1 := sumBits_xor x y n
    have h2 := bitN_xor x y n
    simp only [sumBits]
    omega
theorem par_xor (x y : Nat) : par (x ^^^ y) = (par x + par y) % 2 := by
  unfold par; rw [sumBits_xor]; omega
theorem par_lt (x : Nat) : par x < 2 := Nat.mod_lt _ (by decide)
theorem par_xor' (x y : Nat) : par (x ^^^ y) = par x ^^^ par y := by
  rw [par_xor]
  have h1 := par_lt x
  have h2 := par_lt y
  generalize par x = a at *
  generalize par y = b at *
  obtain rfl | rfl : a = 0 ∨ a = 1 := by omega
  all_goals obtain rfl | rfl : b = 0 ∨ b = 1 := by omega
  all_goals rfl
theorem and_split (a b m n : Nat) (hb : b < 256) (hn : n < 256) : (a * 256 + b) &&& (m * 256 + n) = (a &&& m) * 256 + (b &&& n) := by
  have hc : b &&& n < 256 := Nat.lt_of_le_of_lt Nat.and_le_left hb
  rw [Nat.mul_comm a, Nat.mul_comm m, Nat.mul_comm (a &&& m)]
  apply Nat.eq_of_testBit_eq
  intro i
  rw [Nat.testBit_and]
  have e : (256 : Nat) = 2 ^ 8 := rfl
  rw [e] at *
  rw [Nat.testBit_two_pow_mul_add _ hb, Nat.testBit_two_pow_mul_add _ hn, Nat.testBit_two_pow_mul_add _ hc]
  split
  · rw [Nat.testBit_and]
  · rw [Nat.testBit_and]
def MM (a : Nat) : Nat → Nat
  | 0 => 0
  | k + 1 => MM a k * 256 + a
def s1 (m x : Nat) : Nat := (x / 2 &&& m) + (x &&& m)
def s2 (m x : Nat) : Nat := (x / 4 &&& m) + (x &&& m)
def s3 (m x : Nat) : Nat := (x / 16 + x) &&& m
theorem fin1 : ∀ c r, c < 2 → r < 256 → (c * 128 + r / 2) &&& 85 = (r / 2) &&& 85 := by
  have : ∀ c : Fin 2, ∀ r : Fin 256, (c.val * 128 + r.val / 2) &&& 85 = (r.val / 2) &&& 85 := by decide +kernel
  exact fun c r hc hr => this ⟨c, hc⟩ ⟨r, hr⟩
theorem fin2 : ∀ c r, c < 4 → r < 256 → (c * 64 + r / 4) &&& 51 = (r / 4) &&& 51 := by
  have : ∀ c : Fin 4, ∀ r : Fin 256, (c.val * 64 + r.val / 4) &&& 51 = (r.val / 4) &&& 51 := by decide +kernel
  exact fun c r hc hr => this ⟨c, hc⟩ ⟨r, hr⟩
theorem s1_step (q r k : Nat) (hr : r < 256) : s1 (MM 85 (k + 1)) (q * 256 + r) = s1 (MM 85 k) q * 256 + s1 85 r := by
  unfold s1
  simp only [MM]
  have e : (q * 256 + r) / 2 = (q / 2) * 256 + ((q % 2) * 128 + r / 2) := by omega
  rw [e, and_split _ _ _ _ (by omega) (by decide), and_split _ _ _ _ hr (by decide), fin1 _ _ (by omega) hr]
  omega
theorem s2_step (q r k : Nat) (hr : r < 256) : s2 (MM 51 (k + 1)) (q * 256 + r) = s2 (MM 51 k) q * 256 + s2 51 r := by
  unfold s2
  simp only [MM]
  have e : (q * 256 + r) / 4 = (q / 4) * 256 + ((q % 4) * 64 + r / 4) := by omega
  rw [e, and_split _ _ _ _ (by omega) (by decide), and_split _ _ _ _ hr (by decide), fin2 _ _ (by omega) hr]
  omega
def nib (r : Nat) : Prop := r / 16 ≤ 4 ∧ r % 16 ≤ 4
theorem s3_step (q r k : Nat) (hr : nib r) (hq : q % 16 ≤ 4) : s3 (MM 15 (k + 1)) (q * 256 + r) = s3 (MM 15 k) q * 256 + s3 15 r := by
  unfold s3
  obtain ⟨h1, h2⟩ := hr
  simp only [MM]
  have e : (q * 256 + r) / 16 + (q * 256 + r) = (q / 16 + q) * 256 + ((q % 16) * 16 + r / 16 + r) := by omega
  rw [e, and_split _ _ _ _ (by omega) (by decide)]
  have e15 : ∀ x, x &&& 15 = x % 16 := fun x => Nat.and_two_pow_sub_one_eq_mod x 4
  rw [e15, e15]
  omega
def pop8 (r : Nat) : Nat := r % 2 + r / 2 % 2 + r / 4 % 2 + r / 8 % 2 + r / 16 % 2 + r / 32 % 2 + r / 64 % 2 + r / 128 % 2
theorem byte_ok : ∀ r, r < 256 → s1 85 r < 256 ∧ s2 51 (s1 85 r) < 256 ∧ (s2 51 (s1 85 r) / 16 ≤ 4 ∧ s2 51 (s1 85 r) % 16 ≤ 4) ∧ s3 15 (s2 51 (s1 85 r)) = pop8 r := by
  have : ∀ r : Fin 256, s1 85 r.val < 256 ∧ s2 51 (s1 85 r.val) < 256 ∧ (s2 51 (s1 85 r.val) / 16 ≤ 4 ∧ s2 51 (s1 85 r.val) % 16 ≤ 4) ∧ s3 15 (s2 51 (s1 85 r.val)) = pop8 r.val := by decide +kernel
  exact fun r hr => this ⟨r, hr⟩
theorem pop8_le (r : Nat) : pop8 r ≤ 8 := by unfold pop8; omega
def by3 (k x : Nat) : Nat := s3 (MM 15 k) (s2 (MM 51 k) (s1 (MM 85 k) x))
def lowB (k x : Nat) : Nat := s2 (MM 51 k) (s1 (MM 85 k) x)
theorem lowB_step (q r k : Nat) (hr : r < 256) : lowB (k + 1) (q * 256 + r) = lowB k q * 256 + s2 51 (s1 85 r) := by
  unfold lowB; rw [s1_step _ _ _ hr, s2_step _ _ _ (byte_ok r hr).1]
theorem lowB_zero (x : Nat) : lowB 0 x = 0 := by simp [lowB, s1, s2, MM]
theorem lowB_nib (k x : Nat) : lowB k x % 16 ≤ 4 := by
  cases k with
  | zero => rw [lowB_zero]; decide
  | succ k =>
    have e : x = (x / 256) * 256 + x % 256 := by omega
    have hr : x % 256 < 256 := Nat.mod_lt _ (by decide)
    rw [e, lowB_step _ _ _ hr]
    have := (byte_ok _ hr).2.2.1.2
    omega
theorem by3_step (q r k : Nat) (hr : r < 256) : by3 (k + 1) (q * 256 + r) = by3 k q * 256 + pop8 r := by
  have h0 := byte_ok r hr
  show s3 _ (lowB (k + 1) (q * 256 + r)) = s3 _ (lowB k q) * 256 + _
  rw [lowB_step _ _ _ hr, s3_step _ _ _ h0.2.2.1 (lowB_nib k q), h0.2.2.2]
theorem by3_zero (x : Nat) : by3 0 x = 0 := by simp [by3, s3, MM]
def oc64 (x : Nat) : Nat :=
  let y := s3 1085102592571150095 (s2 3689348814741910323 (s1 6148914691236517205 x))
  let y := y + y / 256
  let y := y + y / 65536
  let y := y + y / 4294967296
  y &&& 127
theorem by3_8 (x : Nat) : s3 1085102592571150095 (s2 3689348814741910323 (s1 6148914691236517205 x)) = by3 8 x := rfl
theorem fin3 (Z Y u v : Nat) (h : Y * 256 + u < 4294967296) (hv : u + v < 128) : ((Z * 256 + v) * 4294967296 + (Y * 256 + u) + ((Z * 256 + v) * 4294967296 + (Y * 256 + u)) / 4294967296) % 128 = u + v := by
  have : ((Z * 256 + v) * 4294967296 + (Y * 256 + u)) / 4294967296 = Z * 256 + v := by omega
  rw [this]; omega
theorem oc64_bytes (r0 r1 r2 r3 r4 r5 r6 r7 : Nat) (h0 : r0 < 256) (h1 : r1 < 256) (h2 : r2 < 256) (h3 : r3 < 256) (h4 : r4 < 256) (h5 : r5 < 256) (h6 : r6 < 256) (h7 : r7 < 256) :
    oc64 (((((((r7 * 256 + r6) * 256 + r5) * 256 + r4) * 256 + r3) * 256 + r2) * 256 + r1) * 256 + r0) = pop8 r0 + pop8 r1 + pop8 r2 + pop8 r3 + pop8 r4 + pop8 r5 + pop8 r6 + pop8 r7 := by
  unfold oc64
  simp only [by3_8]
  have e7 : by3 1 r7 = pop8 r7 := by have := by3_step 0 r7 0 h7; simpa [by3_zero] using this
  rw [by3_step _ _ _ h0, by3_step _ _ _ h1, by3_step _ _ _ h2, by3_step _ _ _ h3, by3_step _ _ _ h4, by3_step _ _ _ h5, by3_step _ _ _ h6, e7]
  have e127 : ∀ x, x &&& 127 = x % 128 := fun x => Nat.and_two_pow_sub_one_eq_mod x 7
  rw [e127]
  have p0 := pop8_le r0
  have p1 := pop8_le r1
  have p2 := pop8_le r2
  have p3 := pop8_le r3
  have p4 := pop8_le r4
  have p5 := pop8_le r5
  have p6 := pop8_le r6
  have p7 := pop8_le r7
  generalize pop8 r0 = a0 at *
  generalize pop8 r1 = a1 at *
  generalize pop8 r2 = a2 at *
  generalize pop8 r3 = a3 at *
  generalize pop8 r4 = a4 at *
  generalize pop8 r5 = a5 at *
  generalize pop8 r6 = a6 at *
  generalize pop8 r7 = a7 at *
  have q1 : (((((((a7 * 256 + a6) * 256 + a5) * 256 + a4) * 256 + a3) * 256 + a2) * 256 + a1) * 256 + a0) + (((((((a7 * 256 + a6) * 256 + a5) * 256 + a4) * 256 + a3) * 256 + a2) * 256 + a1) * 256 + a0) / 256 =
      ((((((a7 * 256 + (a6 + a7)) * 256 + (a5 + a6)) * 256 + (a4 + a5)) * 256 + (a3 + a4)) * 256 + (a2 + a3)) * 256 + (a1 + a2)) * 256 + (a0 + a1) := by omega
  rw [q1]
  clear q1
  have b0 : ∃ b0 b2 b4 b6 c1 c3 c5 : Nat, b0 = a0 + a1 ∧ b2 = a2 + a3 ∧ b4 = a4 + a5 ∧ b6 = a6 + a7 ∧ c1 = a1 + a2 ∧ c3 = a3 + a4 ∧ c5 = a5 + a6 := ⟨_, _, _, _, _, _, _, rfl, rfl, rfl, rfl, rfl, rfl, rfl⟩
  obtain ⟨b0, b2, b4, b6, c1, c3, c5, f0, f2, f4, f6, g1, g3, g5⟩ := b0
  have e0 : a0 + a1 + a2 + a3 + a4 + a5 + a6 + a7 = b0 + b2 + (b4 + b6) := by omega
  have e1 : b0 + b2 + (b4 + b6) < 128 := by omega
  rw [e0]
  rw [← f0, ← f2, ← f4, ← f6, ← g1, ← g3, ← g5]
  clear e0
  have q2 : (((((((a7 * 256 + b6) * 256 + c5) * 256 + b4) * 256 + c3) * 256 + b2) * 256 + c1) * 256 + b0) + (((((((a7 * 256 + b6) * 256 + c5) * 256 + b4) * 256 + c3) * 256 + b2) * 256 + c1) * 256 + b0) / 65536 =
      ((((((a7 * 256 + b6) * 256 + (c5 + a7)) * 256 + (b4 + b6)) * 256 + (c3 + c5)) * 256 + (b2 + b4)) * 256 + (c1 + c3)) * 256 + (b0 + b2) := by omega
  rw [q2]
  clear q2
  have q3 : (((((((a7 * 256 + b6) * 256 + (c5 + a7)) * 256 + (b4 + b6)) * 256 + (c3 + c5)) * 256 + (b2 + b4)) * 256 + (c1 + c3)) * 256 + (b0 + b2)) =
      (((a7 * 256 + b6) * 256 + (c5 + a7)) * 256 + (b4 + b6)) * 4294967296 + ((((c3 + c5) * 256 + (b2 + b4)) * 256 + (c1 + c3)) * 256 + (b0 + b2)) := by omega
  have l3 : (((c3 + c5) * 256 + (b2 + b4)) * 256 + (c1 + c3)) * 256 + (b0 + b2) < 4294967296 := by omega
  rw [q3]
  exact fin3 _ _ _ _ l3 e1
theorem sum64 (f : Nat → Nat) : (f (8 * 0) + f (8 * 0 + 1) + f (8 * 0 + 2) + f (8 * 0 + 3) + f (8 * 0 + 4) + f (8 * 0 + 5) + f (8 * 0 + 6) + f (8 * 0 + 7)) + (f (8 * 1) + f (8 * 1 + 1) + f (8 * 1 + 2) + f (8 * 1 + 3) + f (8 * 1 + 4) + f (8 * 1 + 5) + f (8 * 1 + 6) + f (8 * 1 + 7)) + (f (8 * 2) + f (8 * 2 + 1) + f (8 * 2 + 2) + f (8 * 2 + 3) + f (8 * 2 + 4) + f (8 * 2 + 5) + f (8 * 2 + 6) + f (8 * 2 + 7)) + (f (8 * 3) + f (8 * 3 + 1) + f (8 * 3 + 2) + f (8 * 3 + 3) + f (8 * 3 + 4) + f (8 * 3 + 5) + f (8 * 3 + 6) + f (8 * 3 + 7)) + (f (8 * 4) + f (8 * 4 + 1) + f (8 * 4 + 2) + f (8 * 4 + 3) + f (8 * 4 + 4) + f (8 * 4 + 5) + f (8 * 4 + 6) + f (8 * 4 + 7)) + (f (8 * 5) + f (8 * 5 + 1) + f (8 * 5 + 2) + f (8 * 5 + 3) + f (8 * 5 + 4) + f (8 * 5 + 5) + f (8 * 5 + 6) + f (8 * 5 + 7)) + (f (8 * 6) + f (8 * 6 + 1) + f (8 * 6 + 2) + f (8 * 6 + 3) + f (8 * 6 + 4) + f (8 * 6 + 5) + f (8 * 6 + 6) + f (8 * 6 + 7)) + (f (8 * 7) + f (8 * 7 + 1) + f (8 * 7 + 2) + f (8 * 7 + 3) + f (8 * 7 + 4) + f (8 * 7 + 5) + f (8 * 7 + 6) + f (8 * 7 + 7)) = (((((((((((((((((((((((((((((((((((((((((((((((((((((((((((((((0 + f 0) + f 1) + f 2) + f 3) + f 4) + f 5) + f 6) + f 7) + f 8) + f 9) + f 10) + f 11) + f 12) + f 13) + f 14) + f 15) + f 16) + f 17) + f 18) + f 19) + f 20) + f 21) + f 22) + f 23) + f 24) + f 25) + f 26) + f 27) + f 28) + f 29) + f 30) + f 31) + f 32) + f 33) + f 34) + f 35) + f 36) + f 37) + f 38) + f 39) + f 40) + f 41) + f 42) + f 43) + f 44) + f 45) + f 46) + f 47) + f 48) + f 49) + f 50) + f 51) + f 52) + f 53) + f 54) + f 55) + f 56) + f 57) + f 58) + f 59) + f 60) + f 61) + f 62) + f 63 := by
  simp only [Nat.reduceMul, Nat.reduceAdd, Nat.zero_add]
  ac_rfl
theorem div56 (x : Nat) (hx : x < 18446744073709551616) : x / 72057594037927936 = x / 72057594037927936 % 256 := by omega
theorem oc64_sum (x : Nat) (hx : x < 18446744073709551616) : oc64 x = sumBits x 64 := by
  have e : x = ((((((x / 72057594037927936 * 256 + x / 281474976710656 % 256) * 256 + x / 1099511627776 % 256) * 256 + x / 4294967296 % 256) * 256 + x / 16777216 % 256) * 256 + x / 65536 % 256) * 256 + x / 256 % 256) * 256 + x % 256 := by omega
  have h := oc64_bytes (x % 256) (x / 256 % 256) (x / 65536 % 256) (x / 16777216 % 256) (x / 4294967296 % 256) (x / 1099511627776 % 256) (x / 281474976710656 % 256) (x / 72057594037927936)
    (by omega) (by omega) (by omega) (by omega) (by omega) (by omega) (by omega) (by omega)
  rw [← e] at h
  rw [h]
  have b : ∀ (c d : Nat), x / 256 ^ c % 256 / 2 ^ d % 2 = bitN x (8 * c + d) ∨ 8 ≤ d := by
    intro c d
    rcases Nat.lt_or_ge d 8 with hd | hd
    · left
      unfold bitN
      rw [Nat.pow_add, Nat.pow_mul, ← Nat.div_div_eq_div_mul]
      show x / 256 ^ c % 256 / 2 ^ d % 2 = x / 256 ^ c / 2 ^ d % 2
      generalize x / 256 ^ c = z
      have : d = 0 ∨ d = 1 ∨ d = 2 ∨ d = 3 ∨ d = 4 ∨ d = 5 ∨ d = 6 ∨ d = 7 := by omega
      rcases this with rfl | rfl | rfl | rfl | rfl | rfl | rfl | rfl <;> omega
    · right; exact hd
  have p8 : ∀ c D, D = 256 ^ c → pop8 (x / D % 256) = bitN x (8 * c) + bitN x (8 * c + 1) + bitN x (8 * c + 2) + bitN x (8 * c + 3) + bitN x (8 * c + 4) + bitN x (8 * c + 5) + bitN x (8 * c + 6) + bitN x (8 * c + 7) := by
    rintro c D rfl
    have d0 := (b c 0).resolve_right (by decide)
    have d1 := (b c 1).resolve_right (by decide)
    have d2 := (b c 2).resolve_right (by decide)
    have d3 := (b c 3).resolve_right (by decide)
    have d4 := (b c 4).resolve_right (by decide)
    have d5 := (b c 5).resolve_right (by decide)
    have d6 := (b c 6).resolve_right (by decide)
    have d7 := (b c 7).resolve_right (by decide)
    unfold pop8
    rw [← d1, ← d2, ← d3, ← d4, ← d5, ← d6, ← d7, show 8 * c = 8 * c + 0 from rfl, ← d0]
    simp
  have c0 := p8 0 1 rfl
  rw [Nat.div_one] at c0
  have c1 := p8 1 256 rfl
  have c2 := p8 2 65536 rfl
  have c3 := p8 3 16777216 rfl
  have c4 := p8 4 4294967296 rfl
  have c5 := p8 5 1099511627776 rfl
  have c6 := p8 6 281474976710656 rfl
  have c7 := p8 7 72057594037927936 rfl
  have e7 := div56 x hx
  rw [e7, c0, c1, c2, c3, c4, c5, c6, c7]
  exact sum64 (bitN x)
theorem oc64_par (x : Nat) (hx : x < 18446744073709551616) : oc64 x &&& 1 = par x := by
  rw [oc64_sum x hx, Nat.and_one_is_mod]; rfl
theorem oc64_le (x : Nat) : oc64 x < 128 := by
  unfold oc64
  exact Nat.lt_of_le_of_lt Nat.and_le_right (by decide)
end Go.Abs

/- Plain laws of the error-correcting code words: what is encoded is clean, one inverted bit is found and put right, the data come back. No condition. -/
namespace Go.Abs
def Lin (n : Nat) (f : Nat → Nat) : Prop := ∀ x y, x < 2 ^ n → y < 2 ^ n → f (x ^^^ y) = f x ^^^ f y
theorem Lin.zero {n : Nat} {f : Nat → Nat} (h : Lin n f) : f 0 = 0 := by
  have := h 0 0 (Nat.two_pow_pos n) (Nat.two_pow_pos n)
  simpa using this
theorem Lin.mono {m n : Nat} {f : Nat → Nat} (h : Lin n f) (hm : m ≤ n) : Lin m f := fun x y hx hy =>
  h x y (Nat.lt_of_lt_of_le hx (Nat.pow_le_pow_right (by decide) hm)) (Nat.lt_of_lt_of_le hy (Nat.pow_le_pow_right (by decide) hm))
theorem add_eq_xor {n r : Nat} (hr : r < 2 ^ n) : 2 ^ n + r = r ^^^ 2 ^ n := by
  apply Nat.eq_of_testBit_eq
  intro j
  have := Nat.testBit_two_pow_mul_add 1 hr j
  rw [Nat.mul_one] at this
  rw [this, Nat.testBit_xor, Nat.testBit_two_pow]
  split
  · rename_i hj
    have : ¬ n = j := by omega
    simp [this]
  · rename_i hj
    have h0 : r.testBit j = false := Nat.testBit_lt_two_pow (Nat.lt_of_lt_of_le hr (Nat.pow_le_pow_right (by decide) (by omega)))
    rw [h0]
    by_cases e : n = j
    · subst e; simp
    · have : j - n ≠ 0 := by omega
      simp only [e, decide_false, Bool.false_bne]
      rw [Nat.testBit_lt_two_pow]
      exact Nat.lt_of_lt_of_le (by decide : 1 < 2 ^ 1) (Nat.pow_le_pow_right (by decide) (by omega))
theorem Lin.ext {n : Nat} {f g : Nat → Nat} (hf : Lin n f) (hg : Lin n g) (hb : ∀ i, i < n → f (2 ^ i) = g (2 ^ i)) : ∀ x, x < 2 ^ n → f x = g x := by
  induction n with
  | zero => intro x hx; have : x = 0 := by simpa using hx
            subst this; rw [hf.zero, hg.zero]
  | succ n ih =>
    intro x hx
    have ih' := ih (hf.mono (by omega)) (hg.mono (by omega)) (fun i hi => hb i (by omega))
    rcases Nat.lt_or_ge x (2 ^ n) with h | h
    · exact ih' x h
    · have hp : 2 ^ (n + 1) = 2 ^ n + 2 ^ n := by rw [Nat.pow_succ]; omega
      have hr : x - 2 ^ n < 2 ^ n := by omega
      have e : x = (x - 2 ^ n) ^^^ 2 ^ n := by rw [← add_eq_xor hr]; omega
      have h1 : x - 2 ^ n < 2 ^ (n + 1) := by omega
      have h2 : 2 ^ n < 2 ^ (n + 1) := by have := Nat.two_pow_pos n; omega
      rw [e, hf _ _ h1 h2, hg _ _ h1 h2, ih' _ hr, hb n (by omega)]
theorem Lin.zero_ {n : Nat} : Lin n fun _ => 0 := fun _ _ _ _ => by simp
theorem Lin.id_ {n : Nat} : Lin n fun x => x := fun _ _ _ _ => rfl
theorem Lin.xor {n : Nat} {f g : Nat → Nat} (hf : Lin n f) (hg : Lin n g) : Lin n fun x => f x ^^^ g x := fun x y hx hy => by
  simp only [hf x y hx hy, hg x y hx hy]
  ac_rfl
theorem Lin.and {n : Nat} {f : Nat → Nat} (hf : Lin n f) (m : Nat) : Lin n fun x => f x &&& m := fun x y hx hy => by
  simp only [hf x y hx hy]; exact Nat.and_xor_distrib_right ..
theorem Lin.comp {m n : Nat} {f g : Nat → Nat} (hf : Lin m f) (hg : Lin n g) (hm : ∀ x, x < 2 ^ n → g x < 2 ^ m) : Lin n fun x => f (g x) := fun x y hx hy => by
  simp only [hg x y hx hy]; exact hf _ _ (hm x hx) (hm y hy)
theorem Lin.par {n : Nat} {f : Nat → Nat} (hf : Lin n f) : Lin n fun x => par (f x) := fun x y hx hy => by
  simp only [hf x y hx hy]; exact par_xor' _ _
theorem Lin.mulPow {n : Nat} {f : Nat → Nat} (hf : Lin n f) (k : Nat) : Lin n fun x => f x * 2 ^ k := fun x y hx hy => by
  simp only [hf x y hx hy, ← Nat.shiftLeft_eq]; exact Nat.shiftLeft_xor_distrib ..
theorem Lin.divPow {n : Nat} {f : Nat → Nat} (hf : Lin n f) (k : Nat) : Lin n fun x => f x / 2 ^ k := fun x y hx hy => by
  simp only [hf x y hx hy, ← Nat.shiftRight_eq_div_pow]; exact Nat.shiftRight_xor_distrib ..
theorem Lin.mod2 {n : Nat} {f : Nat → Nat} (hf : Lin n f) : Lin n fun x => f x % 2 := fun x y hx hy => by
  have := hf.and 1 x y hx hy
  simpa only [Nat.and_one_is_mod] using this
theorem or_eq_xor {a b : Nat} (h : a &&& b = 0) : a ||| b = a ^^^ b := by
  apply Nat.eq_of_testBit_eq
  intro i
  have := congrArg (fun z => z.testBit i) h
  simp only [Nat.testBit_and, Nat.zero_testBit] at this
  rw [Nat.testBit_or, Nat.testBit_xor]
  cases ha : a.testBit i <;> cases hb : b.testBit i <;> simp_all
theorem low_and_high {w b k : Nat} (hw : w < 2 ^ k) : w &&& (b * 2 ^ k) = 0 := by
  apply Nat.eq_of_testBit_eq
  intro i
  rw [Nat.testBit_and, Nat.zero_testBit, ← Nat.shiftLeft_eq, Nat.testBit_shiftLeft]
  by_cases hi : i ≥ k
  · rw [Nat.testBit_lt_two_pow (Nat.lt_of_lt_of_le hw (Nat.pow_le_pow_right (by decide) hi))]; rfl
  · simp [hi]
theorem xor_high_lt {w b k : Nat} (hw : w < 2 ^ k) (hb : b < 2) : w ^^^ (b * 2 ^ k) < 2 ^ (k + 1) :=
  Nat.xor_lt_two_pow (Nat.lt_of_lt_of_le hw (Nat.pow_le_pow_right (by decide) (by omega))) (by rw [Nat.pow_succ]; have := Nat.two_pow_pos k; rcases (by omega : b = 0 ∨ b = 1) with rfl | rfl <;> omega)
def chk (at_ : Nat) : Bool := decide (at_ &&& (at_ - 1) = 0)
def spr : Nat → Nat → Nat → Nat → Nat
  | 0, _, w, _ => w
  | k + 1, a, w, d => bif chk a then spr k (a + 1) w d else spr k (a + 1) (w ||| ((d &&& 1) * 2 ^ a)) (d / 2)
def sprx : Nat → Nat → Nat → Nat → Nat
  | 0, _, w, _ => w
  | k + 1, a, w, d => bif chk a then sprx k (a + 1) w d else sprx k (a + 1) (w ^^^ ((d % 2) * 2 ^ a)) (d / 2)
theorem spr_eq : ∀ k a w d, w < 2 ^ a → spr k a w d = sprx k a w d
  | 0, _, _, _, _ => rfl
  | k + 1, a, w, d, h => by
    simp only [spr, sprx, Nat.and_one_is_mod]
    rw [or_eq_xor (low_and_high h), spr_eq k (a + 1) w d (Nat.lt_of_lt_of_le h (Nat.pow_le_pow_right (by decide) (by omega))), spr_eq k (a + 1) _ _ (xor_high_lt h (Nat.mod_lt _ (by decide)))]
theorem sprx_lt : ∀ k a w d, w < 2 ^ a → sprx k a w d < 2 ^ (a + k)
  | 0, _, _, _, h => h
  | k + 1, a, w, d, h => by
    simp only [sprx]
    rw [show a + (k + 1) = (a + 1) + k by omega]
    cases chk a with
    | true => exact sprx_lt k (a + 1) w d (Nat.lt_of_lt_of_le h (Nat.pow_le_pow_right (by decide) (by omega)))
    | false => exact sprx_lt k (a + 1) _ _ (xor_high_lt h (Nat.mod_lt _ (by decide)))
theorem sprx_lin (n : Nat) : ∀ k a (f g : Nat → Nat), Lin n f → Lin n g → Lin n fun x => sprx k a (f x) (g x)
  | 0, _, _, _, hf, _ => hf
  | k + 1, a, f, g, hf, hg => by
    simp only [sprx]
    cases chk a with
    | true => exact sprx_lin n k (a + 1) f g hf hg
    | false => exact sprx_lin n k (a + 1) _ _ (hf.xor (hg.mod2.mulPow a)) (by have := hg.divPow 1; simpa using this)
def spread (d : Nat) : Nat := spr 36 3 0 d
theorem spread_eq (d : Nat) : spread d = sprx 36 3 0 d := spr_eq 36 3 0 d (by decide)
theorem spread_lt (d : Nat) : spread d < 2 ^ 39 := by rw [spread_eq]; exact sprx_lt 36 3 0 d (by decide)
theorem spread_lin : Lin 32 spread := by
  have := sprx_lin 32 36 3 (fun _ => 0) (fun x => x) .zero_ .id_
  intro x y hx hy
  rw [spread_eq, spread_eq, spread_eq]; exact this x y hx hy
def maskN (k : Nat) : Nat := (List.range 39).foldl (fun m a => bif decide (1 ≤ a) && decide (a / 2 ^ k % 2 = 1) then m ||| 2 ^ a else m) 0
def synL : Nat → Nat → Nat → Nat → Nat
  | 0, _, s, _ => s
  | n + 1, k, s, w => synL n (k + 1) (s ||| (par (w &&& maskN k) * 2 ^ k)) w
def synx : Nat → Nat → Nat → Nat → Nat
  | 0, _, s, _ => s
  | n + 1, k, s, w => synx n (k + 1) (s ^^^ (par (w &&& maskN k) * 2 ^ k)) w
theorem synL_eq : ∀ n k s w, s < 2 ^ k → synL n k s w = synx n k s w
  | 0, _, _, _, _ => rfl
  | n + 1, k, s, w, h => by
    simp only [synL, synx]
    rw [or_eq_xor (low_and_high h), synL_eq n (k + 1) _ w (xor_high_lt h (par_lt _))]
theorem synx_lt : ∀ n k s w, s < 2 ^ k → synx n k s w < 2 ^ (k + n)
  | 0, _, _, _, h => h
  | n + 1, k, s, w, h => by
    simp only [synx]
    rw [show k + (n + 1) = (k + 1) + n by omega]
    exact synx_lt n (k + 1) _ w (xor_high_lt h (par_lt _))
theorem synx_lin (m : Nat) : ∀ n k (f g : Nat → Nat), Lin m f → Lin m g → Lin m fun x => synx n k (f x) (g x)
  | 0, _, _, _, hf, _ => hf
  | n + 1, k, f, g, hf, hg => by
    simp only [synx]
    exact synx_lin m n (k + 1) _ g (hf.xor ((hg.and _).par.mulPow k)) hg
def syn (w : Nat) : Nat := synL 6 0 0 w
theorem syn_eq (w : Nat) : syn w = synx 6 0 0 w := synL_eq 6 0 0 w (by decide)
theorem syn_lt (w : Nat) : syn w < 64 := by rw [syn_eq]; exact synx_lt 6 0 0 w (by decide)
theorem syn_lin (n : Nat) : Lin n syn := by
  have := synx_lin n 6 0 (fun _ => 0) (fun x => x) .zero_ .id_
  intro x y hx hy
  rw [syn_eq, syn_eq, syn_eq]; exact this x y hx hy
def parity (w : Nat) : Nat := par (w &&& 549755813887)
theorem parity_lin (n : Nat) : Lin n parity := (Lin.id_.and _).par
theorem parity_lt (w : Nat) : parity w < 2 := par_lt _
def cb : Nat → Nat → Nat → Nat → Nat
  | 0, _, _, w => w
  | n + 1, k, s, w => cb n (k + 1) s (w ||| ((s / 2 ^ k &&& 1) * 2 ^ (2 ^ k)))
def cbN (s : Nat) : Nat := cb 6 0 s 0
theorem cb_or : ∀ n k s w v, cb n k s (w ||| v) = w ||| cb n k s v
  | 0, _, _, _, _ => rfl
  | n + 1, k, s, w, v => by simp only [cb]; rw [Nat.or_assoc, cb_or n (k + 1) s w]
theorem cb_eq (s w : Nat) : cb 6 0 s w = w ||| cbN s := by
  have := cb_or 6 0 s w 0
  rwa [Nat.or_zero] at this
def cmask : Nat := 4295033111
theorem cbN_lin : Lin 6 cbN := by
  have : ∀ x : Fin 64, ∀ y : Fin 64, cbN (x.val ^^^ y.val) = cbN x.val ^^^ cbN y.val := by decide +kernel
  exact fun x y hx hy => this ⟨x, hx⟩ ⟨y, hy⟩
theorem cbN_and : ∀ s, s < 64 → cbN s &&& 4295033110 = cbN s ∧ cbN s < 2 ^ 39 := by
  have : ∀ s : Fin 64, cbN s.val &&& 4295033110 = cbN s.val ∧ cbN s.val < 2 ^ 39 := by decide +kernel
  exact fun s hs => this ⟨s, hs⟩
theorem spread_and (d : Nat) (hd : d < 2 ^ 32) : spread d &&& cmask = 0 :=
  (spread_lin.and cmask).ext (g := fun _ => 0) .zero_ (by
    have : ∀ i : Fin 32, spread (2 ^ i.val) &&& cmask = 0 := by decide +kernel
    exact fun i hi => this ⟨i, hi⟩) d hd
def enc (d : Nat) : Nat :=
  let w := cb 6 0 (syn (spread d)) (spread d)
  w ||| parity w
theorem and_zero_of {a c b : Nat} (h : a &&& c = 0) (hb : b &&& c = b) : a &&& b = 0 := by
  rw [← hb, Nat.and_comm b c, ← Nat.and_assoc, h, Nat.zero_and]
theorem enc_eq (d : Nat) (hd : d < 2 ^ 32) : enc d = (spread d ^^^ cbN (syn (spread d))) ^^^ parity (spread d ^^^ cbN (syn (spread d))) := by
  have h1 := spread_and d hd
  have h2 := (cbN_and (syn (spread d)) (syn_lt _)).1
  have h3 : cbN (syn (spread d)) &&& cmask = cbN (syn (spread d)) := by
    rw [← h2, Nat.and_assoc]; rfl
  have e1 : cb 6 0 (syn (spread d)) (spread d) = spread d ^^^ cbN (syn (spread d)) := by
    rw [cb_eq, or_eq_xor (and_zero_of h1 h3)]
  unfold enc
  simp only [e1]
  apply or_eq_xor
  have h4 : (spread d ^^^ cbN (syn (spread d))) &&& 1 = 0 := by
    rw [Nat.and_xor_distrib_right]
    have a1 : spread d &&& 1 = 0 := by
      have : (spread d &&& cmask) &&& 1 = 0 := by rw [h1]; rfl
      rw [Nat.and_assoc] at this; exact this
    have a2 : cbN (syn (spread d)) &&& 1 = 0 := by rw [← h2, Nat.and_assoc, show (4295033110 &&& 1 : Nat) = 0 from rfl, Nat.and_zero]
    rw [a1, a2]; rfl
  have hp := parity_lt (spread d ^^^ cbN (syn (spread d)))
  exact and_zero_of h4 (by rw [Nat.and_one_is_mod]; exact Nat.mod_eq_of_lt hp)
theorem encx_lin : Lin 32 fun d => spread d ^^^ cbN (syn (spread d)) :=
  spread_lin.xor (cbN_lin.comp ((syn_lin 39).comp spread_lin fun x _ => spread_lt x) fun _x _ => syn_lt _)
theorem enc_lin : Lin 32 enc := by
  have : Lin 32 fun d => (spread d ^^^ cbN (syn (spread d))) ^^^ parity (spread d ^^^ cbN (syn (spread d))) :=
    encx_lin.xor ((parity_lin 39).comp encx_lin fun x _ => Nat.xor_lt_two_pow (spread_lt x) (cbN_and _ (syn_lt _)).2)
  intro x y hx hy
  rw [enc_eq _ (Nat.xor_lt_two_pow hx hy), enc_eq x hx, enc_eq y hy]
  exact this x y hx hy
theorem enc_lt (d : Nat) (hd : d < 2 ^ 32) : enc d < 2 ^ 39 := by
  rw [enc_eq d hd]
  have h1 := Nat.xor_lt_two_pow (spread_lt d) (cbN_and _ (syn_lt (spread d))).2
  exact Nat.xor_lt_two_pow h1 (Nat.lt_of_lt_of_le (parity_lt _) (by decide))
theorem syn_enc (d : Nat) (hd : d < 2 ^ 32) : syn (enc d) = 0 :=
  ((syn_lin 39).comp enc_lin enc_lt).ext (g := fun _ => 0) .zero_ (by
    have : ∀ i : Fin 32, syn (enc (2 ^ i.val)) = 0 := by decide +kernel
    exact fun i hi => this ⟨i, hi⟩) d hd
theorem parity_enc (d : Nat) (hd : d < 2 ^ 32) : parity (enc d) = 0 :=
  ((parity_lin 39).comp enc_lin enc_lt).ext (g := fun _ => 0) .zero_ (by
    have : ∀ i : Fin 32, parity (enc (2 ^ i.val)) = 0 := by decide +kernel
    exact fun i hi => this ⟨i, hi⟩) d hd
theorem syn_bit (b : Nat) (hb : b < 39) : syn (2 ^ b) = b ∧ parity (2 ^ b) = 1 := by
  have : ∀ b : Fin 39, syn (2 ^ b.val) = b.val ∧ parity (2 ^ b.val) = 1 := by decide +kernel
  exact this ⟨b, hb⟩
theorem syn_flip (d b : Nat) (hd : d < 2 ^ 32) (hb : b < 39) : syn (enc d ^^^ 2 ^ b) = b ∧ parity (enc d ^^^ 2 ^ b) = 1 := by
  have h2 : 2 ^ b < 2 ^ 39 := Nat.pow_lt_pow_right (by decide) hb
  obtain ⟨h3, h4⟩ := syn_bit b hb
  rw [(syn_lin 39) _ _ (enc_lt d hd) h2, (parity_lin 39) _ _ (enc_lt d hd) h2, syn_enc d hd, parity_enc d hd, h3, h4]
  exact ⟨Nat.zero_xor b, rfl⟩
def dat : Nat → Nat → Nat → Nat → Nat → Nat
  | 0, _, _, r, _ => r
  | k + 1, a, m, r, w => bif chk a then dat k (a + 1) m r w else dat k (a + 1) (m + 1) (r ||| ((w / 2 ^ a &&& 1) * 2 ^ m)) w
def datx : Nat → Nat → Nat → Nat → Nat → Nat
  | 0, _, _, r, _ => r
  | k + 1, a, m, r, w => bif chk a then datx k (a + 1) m r w else datx k (a + 1) (m + 1) (r ^^^ ((w / 2 ^ a % 2) * 2 ^ m)) w
theorem dat_eq : ∀ k a m r w, r < 2 ^ m → dat k a m r w = datx k a m r w
  | 0, _, _, _, _, _ => rfl
  | k + 1, a, m, r, w, h => by
    simp only [dat, datx, Nat.and_one_is_mod]
    rw [or_eq_xor (low_and_high h), dat_eq k (a + 1) m r w h, dat_eq k (a + 1) (m + 1) _ w (xor_high_lt h (Nat.mod_lt _ (by decide)))]
theorem datx_lin (n : Nat) : ∀ k a m (f g : Nat → Nat), Lin n f → Lin n g → Lin n fun x => datx k a m (f x) (g x)
  | 0, _, _, _, _, hf, _ => hf
  | k + 1, a, m, f, g, hf, hg => by
    simp only [datx]
    cases chk a with
    | true => exact datx_lin n k (a + 1) m f g hf hg
    | false => exact datx_lin n k (a + 1) (m + 1) _ g (hf.xor ((hg.divPow a).mod2.mulPow m)) hg
def data (w : Nat) : Nat := dat 36 3 0 0 w
theorem data_lin (n : Nat) : Lin n data := by
  have := datx_lin n 36 3 0 (fun _ => 0) (fun x => x) .zero_ .id_
  intro x y hx hy
  unfold data
  rw [dat_eq _ _ _ _ _ (by decide), dat_eq _ _ _ _ _ (by decide), dat_eq _ _ _ _ _ (by decide)]; exact this x y hx hy
theorem data_enc (d : Nat) (hd : d < 2 ^ 32) : data (enc d) = d :=
  ((data_lin 39).comp enc_lin enc_lt).ext .id_ (by
    have : ∀ i : Fin 32, data (enc (2 ^ i.val)) = 2 ^ i.val := by decide +kernel
    exact fun i hi => this ⟨i, hi⟩) d hd
end Go.Abs

/- Plain laws of the vault: what its two copies say, and what a save does to them. No condition. -/
namespace Go.Abs
def crcBit (c : Nat) : Nat := bif Nat.beq (c &&& 1) 1 then c / 2 ^ 1 ^^^ 2197175160 else c / 2 ^ 1
def crcBits : Nat → Nat → Nat
  | 0, c => c
  | n + 1, c => crcBits n (crcBit c)
def crcL : List Nat → Nat → Nat
  | [], c => c
  | x :: r, c => crcL r (crcBits 8 (c ^^^ x))
def crc32 (c : Nat) (b : List Nat) : Nat := 4294967295 ^^^ crcL b (4294967295 ^^^ c)
theorem crcBit_lt {c : Nat} (h : c < 2 ^ 32) : crcBit c < 2 ^ 32 := by
  unfold crcBit
  have h2 : c / 2 ^ 1 < 2 ^ 32 := Nat.lt_of_le_of_lt (Nat.div_le_self _ _) h
  cases Nat.beq (c &&& 1) 1
  · exact h2
  · exact Nat.xor_lt_two_pow h2 (by decide)
theorem crcBits_lt : ∀ n {c : Nat}, c < 2 ^ 32 → crcBits n c < 2 ^ 32
  | 0, _, h => h
  | n + 1, _, h => crcBits_lt n (crcBit_lt h)
theorem crcL_lt : ∀ {b : List Nat} {c : Nat}, (∀ x ∈ b, x < 256) → c < 2 ^ 32 → crcL b c < 2 ^ 32
  | [], _, _, h => h
  | x :: r, c, hb, h => by
    have h1 : crcBits 8 (c ^^^ x) < 2 ^ 32 := crcBits_lt 8 (Nat.xor_lt_two_pow h (Nat.lt_of_lt_of_le (hb x (by simp)) (by decide)))
    exact crcL_lt (b := r) (fun y hy => hb y (by simp [hy])) h1
theorem crc32_lt {c : Nat} {b : List Nat} (hb : ∀ x ∈ b, x < 256) (hc : c < 2 ^ 32) : crc32 c b < 2 ^ 32 :=
  Nat.xor_lt_two_pow (by decide) (crcL_lt hb (Nat.xor_lt_two_pow (by decide) hc))
def oct4 (x : Nat) : List Nat := [x / 2 ^ 24 % 256, x / 2 ^ 16 % 256, x / 2 ^ 8 % 256, x / 2 ^ 0 % 256]
def octs : List Nat → List Nat
  | [] => []
  | x :: r => oct4 x ++ octs r
theorem octs_lt : ∀ {l : List Nat} {x : Nat}, x ∈ octs l → x < 256
  | [], _, h => by cases h
  | y :: r, x, h => by
    simp only [octs, List.mem_append, oct4, List.mem_cons, List.not_mem_nil, or_false] at h
    rcases h with (h | h | h | h) | h
    · omega
    · omega
    · omega
    · omega
    · exact octs_lt h
theorem octs_length : ∀ l : List Nat, (octs l).length = 4 * l.length
  | [] => rfl
  | x :: r => by simp only [octs, List.length_append, octs_length r, oct4, List.length_cons, List.length_nil]; omega
theorem octs_append : ∀ l m : List Nat, octs (l ++ m) = octs l ++ octs m
  | [], m => rfl
  | x :: r, m => by simp only [List.cons_append, octs, octs_append r m, List.append_assoc]
def pk : List Nat → Nat → (Nat → Nat) → Nat → Nat
  | [], _, W => W
  | x :: r, i, W => pk r (i + 1) fun j => if j = i / 4 then W j ||| x * 2 ^ (24 - 8 * (i % 4)) else W j
def packW (b : List Nat) : Nat → Nat := pk b 0 fun _ => 0
def wordsK (b : List Nat) : Nat := (b.length + 3) / 4
def body (b : List Nat) : List Nat := (List.range (wordsK b)).map (packW b)
def wordsS (g : Nat) (b : List Nat) : List Nat := (g :: b.length :: body b) ++ [crc32 0 (octs (g :: b.length :: body b))]
theorem body_length (b : List Nat) : (body b).length = wordsK b := by simp [body]
theorem wordsS_length (g : Nat) (b : List Nat) : (wordsS g b).length = wordsK b + 3 := by simp [wordsS, body_length]
def four (b : List Nat) (j : Nat) : Nat := b.getD (4 * j) 0 * 2 ^ 24 + b.getD (4 * j + 1) 0 * 2 ^ 16 + b.getD (4 * j + 2) 0 * 2 ^ 8 + b.getD (4 * j + 3) 0
theorem or_low {a x m : Nat} (hx : x < 2 ^ m) : a * 2 ^ m ||| x = a * 2 ^ m + x := by
  rw [Nat.mul_comm]; exact (Nat.two_pow_add_eq_or_of_lt hx a).symm
def part (b : List Nat) (i j : Nat) : Nat := four (b.take i) j
theorem getD_take (b : List Nat) (i k : Nat) : (b.take i).getD k 0 = if k < i then b.getD k 0 else 0 := by
  simp only [List.getD_eq_getElem?_getD, List.getElem?_take]
  split <;> simp
theorem part_succ {b : List Nat} (hb : ∀ x ∈ b, x < 256) (i : Nat) (hi : i < b.length) (j : Nat) :
    part b (i + 1) j = if j = i / 4 then part b i j ||| b[i] * 2 ^ (24 - 8 * (i % 4)) else part b i j := by
  have hx : b[i] < 256 := hb _ (List.getElem_mem hi)
  have hg : b.getD i 0 = b[i] := by simp [List.getD_eq_getElem?_getD, hi]
  have hlt : ∀ k, b.getD k 0 < 256 := fun k => by
    simp only [List.getD_eq_getElem?_getD]
    rcases Nat.lt_or_ge k b.length with h | h
    · simp only [List.getElem?_eq_getElem h, Option.getD_some]; exact hb _ (List.getElem_mem h)
    · simp [List.getElem?_eq_none h]
  unfold part four
  simp only [getD_take]
  by_cases hj : j = i / 4
  · rw [if_pos hj]
    have h0 := hlt (4 * j)
    have h1 := hlt (4 * j + 1)
    have h2 := hlt (4 * j + 2)
    have hm : i % 4 = 0 ∨ i % 4 = 1 ∨ i % 4 = 2 ∨ i % 4 = 3 := by omega
    rcases hm with hm | hm | hm | hm
    · have e : i = 4 * j := by omega
      rw [if_pos (by omega), if_neg (by omega), if_neg (by omega), if_neg (by omega), if_neg (by omega), if_neg (by omega), if_neg (by omega), if_neg (by omega), hm, ← e, hg]
      simp
    · have e : i = 4 * j + 1 := by omega
      rw [if_pos (by omega), if_pos (by omega), if_neg (by omega), if_neg (by omega), if_pos (by omega), if_neg (by omega), if_neg (by omega), if_neg (by omega), hm, ← e, hg]
      simp only [Nat.zero_mul, Nat.add_zero]
      rw [show 24 - 8 * 1 = 16 from rfl, or_low (m := 24) (show b[i] * 2 ^ 16 < 2 ^ 24 by omega)]
    · have e : i = 4 * j + 2 := by omega
      rw [if_pos (by omega), if_pos (by omega), if_pos (by omega), if_neg (by omega), if_pos (by omega), if_pos (by omega), if_neg (by omega), if_neg (by omega), hm, ← e, hg]
      simp only [Nat.zero_mul, Nat.add_zero]
      have := or_low (a := b.getD (4 * j) 0 * 2 ^ 8 + b.getD (4 * j + 1) 0) (x := b[i] * 2 ^ 8) (m := 16) (by omega)
      rw [show 24 - 8 * 2 = 8 from rfl]
      rw [show (b.getD (4 * j) 0 * 2 ^ 8 + b.getD (4 * j + 1) 0) * 2 ^ 16 = b.getD (4 * j) 0 * 2 ^ 24 + b.getD (4 * j + 1) 0 * 2 ^ 16 by omega] at this
      rw [this]
    · have e : i = 4 * j + 3 := by omega
      rw [if_pos (by omega), if_pos (by omega), if_pos (by omega), if_pos (by omega), if_pos (by omega), if_pos (by omega), if_pos (by omega), if_neg (by omega), hm, ← e, hg]
      simp only [Nat.add_zero]
      have := or_low (a := b.getD (4 * j) 0 * 2 ^ 16 + b.getD (4 * j + 1) 0 * 2 ^ 8 + b.getD (4 * j + 2) 0) (x := b[i]) (m := 8) (by omega)
      rw [show 24 - 8 * 3 = 0 from rfl, Nat.pow_zero, Nat.mul_one]
      rw [show (b.getD (4 * j) 0 * 2 ^ 16 + b.getD (4 * j + 1) 0 * 2 ^ 8 + b.getD (4 * j + 2) 0) * 2 ^ 8 = b.getD (4 * j) 0 * 2 ^ 24 + b.getD (4 * j + 1) 0 * 2 ^ 16 + b.getD (4 * j + 2) 0 * 2 ^ 8 by omega] at this
      rw [this]
  · rw [if_neg hj]
    have g : ∀ t, t < 4 → ((4 * j + t < i + 1) ↔ (4 * j + t < i)) := fun t ht => by omega
    have g0 := g 0 (by omega)
    have g1 := g 1 (by omega)
    have g2 := g 2 (by omega)
    have g3 := g 3 (by omega)
    rw [Nat.add_zero] at g0
    simp only [g0, g1, g2, g3]
theorem pk_part {b : List Nat} (hb : ∀ x ∈ b, x < 256) : ∀ (r : List Nat) (i : Nat), b.drop i = r → ∀ W, (∀ j, W j = part b i j) → ∀ j, pk r i W j = four b j
  | [], i, hr, W, hW, j => by
    have hi : b.length ≤ i := by simpa using hr
    show W j = _
    rw [hW j, part, List.take_of_length_le hi]
  | x :: r, i, hr, W, hW, j => by
    have hi : i < b.length := by
      rcases Nat.lt_or_ge i b.length with h | h
      · exact h
      · rw [List.drop_eq_nil_of_le h] at hr; cases hr
    have hx : b[i] = x ∧ b.drop (i + 1) = r := by
      rw [List.drop_eq_getElem_cons hi] at hr
      exact ⟨(List.cons.inj hr).1, (List.cons.inj hr).2⟩
    simp only [pk]
    refine pk_part hb r (i + 1) hx.2 _ (fun j => ?_) j
    rw [part_succ hb i hi j, hx.1, hW j]
theorem packW_four {b : List Nat} (hb : ∀ x ∈ b, x < 256) (j : Nat) : packW b j = four b j :=
  pk_part hb b 0 rfl _ (fun j => by simp [part, four]) j
theorem getD_lt {b : List Nat} (hb : ∀ x ∈ b, x < 256) (k : Nat) : b.getD k 0 < 256 := by
  simp only [List.getD_eq_getElem?_getD]
  rcases Nat.lt_or_ge k b.length with h | h
  · simp only [List.getElem?_eq_getElem h, Option.getD_some]; exact hb _ (List.getElem_mem h)
  · simp [List.getElem?_eq_none h]
theorem four_lt {b : List Nat} (hb : ∀ x ∈ b, x < 256) (j : Nat) : four b j < 2 ^ 32 := by
  unfold four
  have h0 := getD_lt hb (4 * j)
  have h1 := getD_lt hb (4 * j + 1)
  have h2 := getD_lt hb (4 * j + 2)
  have h3 := getD_lt hb (4 * j + 3)
  omega
theorem oct4_four {b : List Nat} (hb : ∀ x ∈ b, x < 256) (j : Nat) : oct4 (four b j) = [b.getD (4 * j) 0, b.getD (4 * j + 1) 0, b.getD (4 * j + 2) 0, b.getD (4 * j + 3) 0] := by
  unfold oct4 four
  have h0 := getD_lt hb (4 * j)
  have h1 := getD_lt hb (4 * j + 1)
  have h2 := getD_lt hb (4 * j + 2)
  have h3 := getD_lt hb (4 * j + 3)
  generalize b.getD (4 * j) 0 = x0 at *
  generalize b.getD (4 * j + 1) 0 = x1 at *
  generalize b.getD (4 * j + 2) 0 = x2 at *
  generalize b.getD (4 * j + 3) 0 = x3 at *
  congr 1
  · omega
  · congr 1
    · omega
    · congr 1
      · omega
      · congr 1; omega
theorem octs_range {b : List Nat} (hb : ∀ x ∈ b, x < 256) : ∀ k, octs ((List.range k).map (four b)) = (List.range (4 * k)).map fun i => b.getD i 0
  | 0 => rfl
  | k + 1 => by
    rw [List.range_succ, List.map_append, octs_append, octs_range hb k]
    simp only [List.map_cons, List.map_nil, octs, oct4_four hb, List.append_nil]
    rw [show 4 * (k + 1) = 4 * k + 1 + 1 + 1 + 1 by omega, List.range_succ, List.range_succ, List.range_succ, List.range_succ]
    simp
theorem octs_body {b : List Nat} (hb : ∀ x ∈ b, x < 256) : (octs (body b)).take b.length = b := by
  have e : body b = (List.range (wordsK b)).map (four b) := by unfold body; congr 1; funext j; exact packW_four hb j
  rw [e, octs_range hb]
  apply List.ext_getElem?
  intro i
  rw [List.getElem?_take]
  by_cases hi : i < b.length
  · have h4 : i < 4 * wordsK b := by unfold wordsK; omega
    simp [hi, h4]
  · simp [hi]
theorem body_lt {b : List Nat} (hb : ∀ x ∈ b, x < 256) {x : Nat} (h : x ∈ body b) : x < 2 ^ 32 := by
  unfold body at h
  obtain ⟨j, _, rfl⟩ := List.mem_map.1 h
  rw [packW_four hb]; exact four_lt hb j
def rdL (D : Nat → Nat) (a n : Nat) : List Nat := (List.range ((n + 3) / 4 + 3)).map fun i => D (a + i)
def rdB (D : Nat → Nat) (a n : Nat) : List Nat := (octs ((List.range ((n + 3) / 4)).map fun i => D (a + 2 + i))).take n
def rdS (D : Nat → Nat) (a room : Nat) : Nat × List Nat :=
  if D a = 0 ∨ room < D (a + 1) then (0, []) else if rdL D a (D (a + 1)) = wordsS (D a) (rdB D a (D (a + 1))) then (D a, rdB D a (D (a + 1))) else (0, [])
theorem rdS_congr {D D' : Nat → Nat} {a half room : Nat} (hroom : room = 4 * (half - 3)) (h3 : 4 ≤ half) (h : ∀ i, i < half → D' (a + i) = D (a + i)) : rdS D' a room = rdS D a room := by
  have h0 := h 0 (by omega)
  have h1 := h 1 (by omega)
  rw [Nat.add_zero] at h0
  unfold rdS
  rw [h0, h1]
  by_cases hc : D a = 0 ∨ room < D (a + 1)
  · rw [if_pos hc, if_pos hc]
  · rw [if_neg hc, if_neg hc]
    have hn : D (a + 1) ≤ room := by omega
    have e1 : rdL D' a (D (a + 1)) = rdL D a (D (a + 1)) := by
      unfold rdL
      apply List.map_congr_left
      intro i hi
      exact h i (by have := List.mem_range.1 hi; omega)
    have e2 : rdB D' a (D (a + 1)) = rdB D a (D (a + 1)) := by
      unfold rdB
      congr 2
      apply List.map_congr_left
      intro i hi
      have := h (2 + i) (by have := List.mem_range.1 hi; omega)
      rwa [← Nat.add_assoc] at this
    rw [e1, e2]
theorem rdS_zero {D : Nat → Nat} {a room : Nat} (h : D a = 0) : rdS D a room = (0, []) := by unfold rdS; rw [if_pos (.inl h)]
theorem wordsS_get {g : Nat} {b : List Nat} : (wordsS g b)[0]? = some g ∧ (wordsS g b)[1]? = some b.length ∧ (∀ i, i < wordsK b → (wordsS g b)[2 + i]? = (body b)[i]?) := by
  refine ⟨rfl, rfl, fun i hi => ?_⟩
  unfold wordsS
  rw [List.getElem?_append_left (by simp [body_length]; omega), show 2 + i = i + 1 + 1 by omega, List.getElem?_cons_succ, List.getElem?_cons_succ]
theorem rdS_words {D : Nat → Nat} {a room g : Nat} {b : List Nat} (hb : ∀ x ∈ b, x < 256) (hg : 0 < g) (hr : b.length ≤ room) (h : ∀ i x, (wordsS g b)[i]? = some x → D (a + i) = x) : rdS D a room = (g, b) := by
  have w := wordsS_get (g := g) (b := b)
  have h0 := h 0 g w.1
  have h1 := h 1 b.length w.2.1
  rw [Nat.add_zero] at h0
  have e2 : rdB D a b.length = b := by
    unfold rdB
    have : (List.range ((b.length + 3) / 4)).map (fun i => D (a + 2 + i)) = body b := by
      apply List.ext_getElem?
      intro i
      by_cases hi : i < wordsK b
      · have hbi : i < (body b).length := by rw [body_length]; exact hi
        have := h (2 + i) _ ((w.2.2 i hi).trans (List.getElem?_eq_getElem hbi))
        rw [← Nat.add_assoc] at this
        have hi' : i < (b.length + 3) / 4 := hi
        simp [hi', hbi, this]
      · rw [List.getElem?_eq_none (by simp; unfold wordsK at hi; omega), List.getElem?_eq_none (by rw [body_length]; omega)]
    rw [this]; exact octs_body hb
  have e1 : rdL D a b.length = wordsS g b := by
    unfold rdL
    apply List.ext_getElem?
    intro i
    by_cases hi : i < (wordsS g b).length
    · have h2 := h i _ (List.getElem?_eq_getElem hi)
      have hi' : i < (b.length + 3) / 4 + 3 := by rw [wordsS_length] at hi; exact hi
      simp [hi', h2]
    · rw [List.getElem?_eq_none (by rw [wordsS_length] at hi; unfold wordsK at hi; simp; omega), List.getElem?_eq_none (by omega)]
  unfold rdS
  rw [h0, h1, if_neg (by omega), e2, e1, if_pos rfl]
def newS (D : Nat → Nat) (a half : Nat) : Nat × Nat × List Nat :=
  let p := rdS D a (4 * (half - 3))
  let q := rdS D (a + half) (4 * (half - 3))
  if p.1 < q.1 then (1, q.1, q.2) else (0, p.1, p.2)
def oldS (D : Nat → Nat) (a half : Nat) : Nat := if (newS D a half).2.1 = 0 then 0 else 1 - (newS D a half).1
def loadS (D : Nat → Nat) (a half : Nat) : Option (List Nat) := if (newS D a half).2.1 = 0 then none else some (newS D a half).2.2
theorem save_full {D D' : Nat → Nat} {a half : Nat} {img : List Nat} (h4 : 4 ≤ half) (hb : ∀ x ∈ img, x < 256) (hr : img.length ≤ 4 * (half - 3))
    (hw : ∀ i x, (wordsS ((newS D a half).2.1 + 1) img)[i]? = some x → D' (a + oldS D a half * half + i) = x)
    (ho : ∀ i, i < half → D' (a + (1 - oldS D a half) * half + i) = D (a + (1 - oldS D a half) * half + i)) : loadS D' a half = some img := by
  have hp := rdS_words hb (Nat.succ_pos _) hr hw
  have hq := rdS_congr rfl h4 ho
  have hcase : oldS D a half = 0 ∨ oldS D a half = 1 := by unfold oldS; split <;> omega
  have hg : ∀ i, i < 2 → (rdS D (a + i * half) (4 * (half - 3))).1 ≤ (newS D a half).2.1 := by
    intro i hi
    unfold newS
    obtain rfl | rfl : i = 0 ∨ i = 1 := by omega
    · simp only [Nat.zero_mul, Nat.add_zero]; split <;> simp only [] <;> omega
    · simp only [Nat.one_mul]; split <;> simp only [] <;> omega
  rcases hcase with e | e
  · rw [e] at hp hq
    simp only [Nat.zero_mul, Nat.add_zero, Nat.sub_zero, Nat.one_mul] at hp hq
    have := hg 1 (by decide)
    rw [Nat.one_mul, ← hq] at this
    unfold loadS
    have e2 : newS D' a half = (0, (newS D a half).2.1 + 1, img) := by
      conv => lhs; unfold newS
      simp only [hp]
      rw [if_neg (by omega)]
    rw [e2]; simp
  · rw [e] at hp hq
    simp only [Nat.one_mul, Nat.sub_self, Nat.zero_mul, Nat.add_zero] at hp hq
    have := hg 0 (by decide)
    rw [Nat.zero_mul, Nat.add_zero, ← hq] at this
    unfold loadS
    have e2 : newS D' a half = (1, (newS D a half).2.1 + 1, img) := by
      conv => lhs; unfold newS
      simp only [hp]
      rw [if_pos (by omega)]
    rw [e2]; simp
theorem save_cut {D D' : Nat → Nat} {a half : Nat} (h4 : 4 ≤ half) (hz : D' (a + oldS D a half * half) = 0)
    (ho : ∀ i, i < half → D' (a + (1 - oldS D a half) * half + i) = D (a + (1 - oldS D a half) * half + i)) : loadS D' a half = loadS D a half := by
  have hp := rdS_zero (room := 4 * (half - 3)) hz
  have hq := rdS_congr rfl h4 ho
  by_cases hn : (newS D a half).2.1 = 0
  · have e : oldS D a half = 0 := by unfold oldS; rw [if_pos hn]
    rw [e] at hp hq
    simp only [Nat.zero_mul, Nat.add_zero, Nat.sub_zero, Nat.one_mul] at hp hq
    have hq0 : (rdS D (a + half) (4 * (half - 3))).1 = 0 := by
      unfold newS at hn
      simp only [] at hn
      split at hn
      · simp only [] at hn; omega
      · simp only [] at hn; omega
    unfold loadS
    rw [if_pos hn]
    have e2 : (newS D' a half).2.1 = 0 := by
      unfold newS
      simp only [hp, hq, hq0]
      simp
    rw [if_pos e2]
  · have e : oldS D a half = 1 - (newS D a half).1 := by unfold oldS; rw [if_neg hn]
    have key : newS D' a half = newS D a half := by
      have hc : (newS D a half).1 = 0 ∨ (newS D a half).1 = 1 := by unfold newS; simp only []; split <;> simp
      rcases hc with hc | hc
      · rw [e, hc] at hp hq
        simp only [Nat.sub_zero, Nat.one_mul, Nat.sub_self, Nat.zero_mul, Nat.add_zero] at hp hq
        have hn0 : newS D a half = (0, (rdS D a (4 * (half - 3))).1, (rdS D a (4 * (half - 3))).2) := by
          unfold newS at hc ⊢
          simp only [] at hc ⊢
          split at hc
          · cases hc
          · rename_i h; rw [if_neg h]
        rw [hn0]
        conv => lhs; unfold newS
        simp only [hp, hq]
        rw [if_neg (by omega)]
      · rw [e, hc] at hp hq
        simp only [Nat.sub_self, Nat.zero_mul, Nat.add_zero, Nat.sub_zero, Nat.one_mul] at hp hq
        have hn1 : newS D a half = (1, (rdS D (a + half) (4 * (half - 3))).1, (rdS D (a + half) (4 * (half - 3))).2) := by
          unfold newS at hc ⊢
          simp only [] at hc ⊢
          split at hc
          · rename_i h; rw [if_pos h]
          · cases hc
        rw [hn1] at hn ⊢
        conv => lhs; unfold newS
        simp only [hp, hq]
        rw [if_pos (by simp only [] at hn; omega)]
    unfold loadS
    rw [key]
theorem load_congr {D D' : Nat → Nat} {a half : Nat} (h4 : 4 ≤ half) (ho : ∀ i, i < 2 * half → D' (a + i) = D (a + i)) : loadS D' a half = loadS D a half := by
  have e0 : rdS D' a (4 * (half - 3)) = rdS D a (4 * (half - 3)) := rdS_congr rfl h4 fun i hi => ho i (by omega)
  have e1 : rdS D' (a + half) (4 * (half - 3)) = rdS D (a + half) (4 * (half - 3)) := rdS_congr rfl h4 fun i hi => by
    have := ho (half + i) (by omega); rwa [← Nat.add_assoc] at this
  unfold loadS newS
  rw [e0, e1]
end Go.Abs
