/-
  How many bits of a word are set: the sum by lanes, in plain numbers. Conditions: a word of 64 bits.
-/
import Derived.Test.YtbkegknfmcanaaaDoorRows
import Derived.Laws.Bits64b
import Derived.Laws.Bits64
import Derived.RowKit
namespace Go.Proofs.YtbkegknfmcanaaaDoor
open Go.RowKit
set_option maxRecDepth 8000

/-- The number whose bits below k are f's. -/
def bitsN (f : Nat → Bool) : Nat → Nat
  | 0 => 0
  | k + 1 => bitsN f k + if f k then 2 ^ k else 0
def cntN (f : Nat → Bool) : Nat → Nat
  | 0 => 0
  | k + 1 => cntN f k + if f k then 1 else 0
theorem bitsN_lt (f : Nat → Bool) : ∀ k, bitsN f k < 2 ^ k
  | 0 => by simp [bitsN]
  | k + 1 => by
    have := bitsN_lt f k
    rw [bitsN, Nat.pow_succ]; split <;> omega
theorem bitsN_congr {f g : Nat → Bool} : ∀ k, (∀ i, i < k → f i = g i) → bitsN f k = bitsN g k
  | 0, _ => rfl
  | k + 1, h => by rw [bitsN, bitsN, bitsN_congr k fun i hi => h i (by omega), h k (by omega)]
theorem bitsN_split (f : Nat → Bool) (a : Nat) : ∀ k, bitsN f (a + k) = bitsN f a + 2 ^ a * bitsN (fun i => f (a + i)) k
  | 0 => by simp [bitsN]
  | k + 1 => by
    rw [← Nat.add_assoc, bitsN, bitsN_split f a k, bitsN, Nat.mul_add, Nat.add_assoc]
    split <;> simp [Nat.pow_add]
theorem cntN_split (f : Nat → Bool) (a : Nat) : ∀ k, cntN f (a + k) = cntN f a + cntN (fun i => f (a + i)) k
  | 0 => by simp [cntN]
  | k + 1 => by rw [← Nat.add_assoc, cntN, cntN_split f a k, cntN, Nat.add_assoc]
theorem cntN_le (f : Nat → Bool) : ∀ k, cntN f k ≤ k
  | 0 => Nat.le_refl _
  | k + 1 => by have := cntN_le f k; rw [cntN]; split <;> omega
theorem testBit_bitsN (f : Nat → Bool) : ∀ k i, (bitsN f k).testBit i = (decide (i < k) && f i)
  | 0, i => by simp [bitsN]
  | k + 1, i => by
    have ih := testBit_bitsN f k i
    have hl := bitsN_lt f k
    rw [bitsN]
    by_cases hk : f k
    · rw [if_pos hk, Nat.add_comm]
      by_cases e : i = k
      · subst e
        rw [Nat.testBit_two_pow_add_eq, ih]; simp [hk]
      · by_cases e2 : i < k
        · rw [Nat.testBit_two_pow_add_gt e2, ih]; simp [e2, show i < k + 1 by omega]
        · have h2 : 2 ^ k + bitsN f k < 2 ^ i := Nat.lt_of_lt_of_le (show 2 ^ k + bitsN f k < 2 ^ (k + 1) by rw [Nat.pow_succ]; omega) (Nat.pow_le_pow_right (by omega) (by omega))
          rw [Nat.testBit_lt_two_pow h2]; simp; intro h; omega
    · rw [if_neg hk, Nat.add_zero, ih]
      by_cases e : i = k
      · subst e; simp [hk]
      · congr 1
        rw [decide_eq_decide]; omega

/-! ### The lanes -/
def maskN (c : Nat) : Nat → Nat
  | 0 => 0
  | n + 1 => c + 256 * maskN c n
theorem and_split (b q c d : Nat) (hb : b < 256) (hc : c < 256) : (b + 256 * q) &&& (c + 256 * d) = (b &&& c) + 256 * (q &&& d) := by
  have h1 : (b &&& c) < 2 ^ 8 := Nat.and_lt_two_pow _ (by omega)
  refine Nat.eq_of_testBit_eq fun i => ?_
  rw [Nat.testBit_and, show b + 256 * q = 2 ^ 8 * q + b by omega, show c + 256 * d = 2 ^ 8 * d + c by omega, show (b &&& c) + 256 * (q &&& d) = 2 ^ 8 * (q &&& d) + (b &&& c) by omega,
    Nat.testBit_two_pow_mul_add _ (by omega), Nat.testBit_two_pow_mul_add _ (by omega), Nat.testBit_two_pow_mul_add _ h1]
  split <;> simp [Nat.testBit_and]
def t1 (b : Nat) : Nat := ((b / 2) &&& 85) + (b &&& 85)
def t2 (b : Nat) : Nat := ((b / 4) &&& 51) + (b &&& 51)
def t3 (b : Nat) : Nat := ((b / 16) + b) &&& 15
def s1 (n x : Nat) : Nat := ((x / 2) &&& maskN 85 n) + (x &&& maskN 85 n)
def s2 (n x : Nat) : Nat := ((x / 4) &&& maskN 51 n) + (x &&& maskN 51 n)
def s3 (n x : Nat) : Nat := ((x / 16) + x) &&& maskN 15 n
theorem d1 : ∀ b : Fin 256, ∀ r : Fin 2, (b.val / 2 + 128 * r.val) &&& 85 = (b.val / 2) &&& 85 := by decide +kernel
theorem d2 : ∀ b : Fin 256, ∀ r : Fin 4, (b.val / 4 + 64 * r.val) &&& 51 = (b.val / 4) &&& 51 := by decide +kernel
theorem d3 : ∀ b : Fin 256, ∀ r : Fin 7, b.val % 16 ≤ 6 → b.val / 16 ≤ 6 → (b.val / 16 + b.val + 16 * r.val) < 256 ∧ (b.val / 16 + b.val + 16 * r.val) &&& 15 = (b.val / 16 + b.val) &&& 15 := by decide +kernel
theorem t1_lt : ∀ b : Fin 256, t1 b.val < 256 := by decide +kernel
theorem t2_lt : ∀ b : Fin 256, t2 b.val < 256 ∧ t2 b.val % 16 ≤ 6 ∧ t2 b.val / 16 ≤ 6 := by decide +kernel
theorem t3_le : ∀ b : Fin 256, t3 (t2 (t1 b.val)) ≤ 8 := by decide +kernel
theorem s1_step (n b q : Nat) (hb : b < 256) : s1 (n + 1) (b + 256 * q) = t1 b + 256 * s1 n q := by
  unfold s1 t1
  rw [show (b + 256 * q) / 2 = (b / 2 + 128 * (q % 2)) + 256 * (q / 2) by omega, maskN, and_split _ _ _ _ (by omega) (by decide), and_split _ _ _ _ hb (by decide)]
  have := d1 ⟨b, hb⟩ ⟨q % 2, by omega⟩
  dsimp only at this
  rw [this]; omega
theorem s2_step (n b q : Nat) (hb : b < 256) : s2 (n + 1) (b + 256 * q) = t2 b + 256 * s2 n q := by
  unfold s2 t2
  rw [show (b + 256 * q) / 4 = (b / 4 + 64 * (q % 4)) + 256 * (q / 4) by omega, maskN, and_split _ _ _ _ (by omega) (by decide), and_split _ _ _ _ hb (by decide)]
  have := d2 ⟨b, hb⟩ ⟨q % 4, by omega⟩
  dsimp only at this
  rw [this]; omega
theorem s3_step (n b q : Nat) (hb : b < 256) (h1 : b % 16 ≤ 6) (h2 : b / 16 ≤ 6) (h3 : q % 16 ≤ 6) : s3 (n + 1) (b + 256 * q) = t3 b + 256 * s3 n q := by
  unfold s3 t3
  obtain ⟨e1, e2⟩ := d3 ⟨b, hb⟩ ⟨q % 16, by omega⟩ h1 h2
  dsimp only at e1 e2
  rw [show (b + 256 * q) / 16 + (b + 256 * q) = (b / 16 + b + 16 * (q % 16)) + 256 * (q / 16 + q) by omega, maskN, and_split _ _ _ _ e1 (by decide), e2]
theorem s2_low (n x : Nat) (hx : x < 256 ^ n) : s2 n x % 16 ≤ 6 := by
  cases n with
  | zero => obtain rfl : x = 0 := by simpa using hx
            decide
  | succ n =>
    have h := t2_lt ⟨x % 256, by omega⟩
    dsimp only at h
    rw [show x = x % 256 + 256 * (x / 256) by omega, s2_step n _ _ (by omega)]
    omega
theorem s1_lt (n x : Nat) (hx : x < 256 ^ n) : s1 n x < 256 ^ n := by
  induction n generalizing x with
  | zero => obtain rfl : x = 0 := by simpa using hx
            decide
  | succ n ih =>
    have h := t1_lt ⟨x % 256, by omega⟩
    dsimp only at h
    have h2 := ih (x / 256) (by rw [Nat.pow_succ] at hx; omega)
    rw [show x = x % 256 + 256 * (x / 256) by omega, s1_step n _ _ (by omega), Nat.pow_succ]
    omega
/-- The bytes' counts, packed. -/
def pcs : Nat → Nat → Nat
  | 0, _ => 0
  | n + 1, x => t3 (t2 (t1 (x % 256))) + 256 * pcs n (x / 256)
theorem lanes (n x : Nat) (hx : x < 256 ^ n) : s3 n (s2 n (s1 n x)) = pcs n x := by
  induction n generalizing x with
  | zero => simp [s3, maskN, pcs]
  | succ n ih =>
    have hq : x / 256 < 256 ^ n := by rw [Nat.pow_succ] at hx; omega
    have h1 := t1_lt ⟨x % 256, by omega⟩
    dsimp only at h1
    have h2 := t2_lt ⟨t1 (x % 256), h1⟩
    dsimp only at h2
    have h3 := s2_low n (s1 n (x / 256)) (s1_lt n _ hq)
    have h4 := ih _ hq
    rw [pcs, ← h4]
    conv => lhs; rw [show x = x % 256 + 256 * (x / 256) by omega, s1_step n _ _ (by omega), s2_step n _ _ h1, s3_step n _ _ h2.1 h2.2.1 h2.2.2 h3]
theorem byte_cnt : ∀ a b c d e f g h : Bool, t3 (t2 (t1 ((((((((0 + (if a then 2 ^ 0 else 0)) + (if b then 2 ^ 1 else 0)) + (if c then 2 ^ 2 else 0)) + (if d then 2 ^ 3 else 0)) + (if e then 2 ^ 4 else 0)) + (if f then 2 ^ 5 else 0)) + (if g then 2 ^ 6 else 0)) + (if h then 2 ^ 7 else 0)))) =
    (((((((0 + (if a then 1 else 0)) + (if b then 1 else 0)) + (if c then 1 else 0)) + (if d then 1 else 0)) + (if e then 1 else 0)) + (if f then 1 else 0)) + (if g then 1 else 0)) + (if h then 1 else 0) := by decide +kernel
theorem byte_bits (f : Nat → Bool) : t3 (t2 (t1 (bitsN f 8))) = cntN f 8 := byte_cnt (f 0) (f 1) (f 2) (f 3) (f 4) (f 5) (f 6) (f 7)
theorem dv1 (u r : Nat) (hu : u < 256) : (u + 256 * r) / 256 = r := by omega
theorem dv2 (u v r : Nat) (hu : u < 256) (hv : v < 256) : (u + 256 * (v + 256 * r)) / 65536 = r := by omega
theorem dv4 (u v w x r : Nat) (hu : u < 256) (hv : v < 256) (hw : w < 256) (hx : x < 256) : (u + 256 * (v + 256 * (w + 256 * (x + 256 * r)))) / 4294967296 = r := by
  rw [show 4294967296 = 65536 * 65536 from rfl, ← Nat.div_div_eq_div_mul, dv2 _ _ _ hu hv, dv2 _ _ _ hw hx]
theorem md1 (s r : Nat) (hs : s < 128) : (s + 256 * r) % 128 = s := by omega
def oct (a b c d e f g h : Nat) : Nat := a + 256 * (b + 256 * (c + 256 * (d + 256 * (e + 256 * (f + 256 * (g + 256 * h))))))
theorem oct_lt {a b c d e f g h : Nat} (ha : a < 256) (hb : b < 256) (hc : c < 256) (hd : d < 256) (he : e < 256) (hf : f < 256) (hg : g < 256) (hh : h < 256) : oct a b c d e f g h < 18446744073709551616 := by
  unfold oct; omega
theorem oct_lt63 {a b c d e f g h : Nat} (ha : a < 256) (hb : b < 256) (hc : c < 256) (hd : d < 256) (he : e < 256) (hf : f < 256) (hg : g < 256) (hh : h < 128) : oct a b c d e f g h < 9223372036854775808 := by
  unfold oct; omega
theorem oct_add (a b c d e f g h a' b' c' d' e' f' g' h' : Nat) : oct a b c d e f g h + oct a' b' c' d' e' f' g' h' = oct (a + a') (b + b') (c + c') (d + d') (e + e') (f + f') (g + g') (h + h') := by
  unfold oct; omega
theorem oct_1 {a : Nat} (b c d e f g h : Nat) (ha : a < 256) : oct a b c d e f g h / 256 = oct b c d e f g h 0 := by
  unfold oct; rw [dv1 _ _ ha]; simp only [Nat.mul_zero, Nat.add_zero]
theorem oct_2 {a b : Nat} (c d e f g h : Nat) (ha : a < 256) (hb : b < 256) : oct a b c d e f g h / 65536 = oct c d e f g h 0 0 := by
  unfold oct; rw [dv2 _ _ _ ha hb]; simp only [Nat.mul_zero, Nat.add_zero]
theorem oct_4 {a b c d : Nat} (e f g h : Nat) (ha : a < 256) (hb : b < 256) (hc : c < 256) (hd : d < 256) : oct a b c d e f g h / 4294967296 = oct e f g h 0 0 0 0 := by
  unfold oct; rw [dv4 _ _ _ _ _ ha hb hc hd]; simp only [Nat.mul_zero, Nat.add_zero]
/-- Eight lanes, summed. -/
theorem fold8 {a b c d e f g h : Nat} (ha : a ≤ 8) (hb : b ≤ 8) (hc : c ≤ 8) (hd : d ≤ 8) (he : e ≤ 8) (hf : f ≤ 8) (hg : g ≤ 8) (hh : h ≤ 8) {x4 x5 x6 P : Nat}
    (hP : P = oct a b c d e f g h) (h4 : x4 = P + P / 256) (h5 : x5 = x4 + x4 / 65536) (h6 : x6 = x5 + x5 / 4294967296) :
    P < 18446744073709551616 ∧ x4 < 18446744073709551616 ∧ x5 < 18446744073709551616 ∧ x6 < 9223372036854775808 ∧ x6 % 128 = a + b + c + d + e + f + g + h := by
  have e4 : x4 = oct (a + b) (b + c) (c + d) (d + e) (e + f) (f + g) (g + h) (h + 0) := by rw [h4, hP, oct_1 _ _ _ _ _ _ _ (by omega), oct_add]
  have e5 : x5 = oct (a + b + (c + d)) (b + c + (d + e)) (c + d + (e + f)) (d + e + (f + g)) (e + f + (g + h)) (f + g + (h + 0)) (g + h + 0) (h + 0 + 0) := by
    rw [h5, e4, oct_2 _ _ _ _ _ _ (by omega) (by omega), oct_add]
  have e6 : x6 = oct (a + b + (c + d) + (e + f + (g + h))) (b + c + (d + e) + (f + g + (h + 0))) (c + d + (e + f) + (g + h + 0)) (d + e + (f + g) + (h + 0 + 0)) (e + f + (g + h) + 0) (f + g + (h + 0) + 0) (g + h + 0 + 0) (h + 0 + 0 + 0) := by
    rw [h6, e5, oct_4 _ _ _ _ (by omega) (by omega) (by omega) (by omega), oct_add]
  refine ⟨?_, ?_, ?_, ?_, ?_⟩
  · rw [hP]; exact oct_lt (by omega) (by omega) (by omega) (by omega) (by omega) (by omega) (by omega) (by omega)
  · rw [e4]; exact oct_lt (by omega) (by omega) (by omega) (by omega) (by omega) (by omega) (by omega) (by omega)
  · rw [e5]; exact oct_lt (by omega) (by omega) (by omega) (by omega) (by omega) (by omega) (by omega) (by omega)
  · rw [e6]; exact oct_lt63 (by omega) (by omega) (by omega) (by omega) (by omega) (by omega) (by omega) (by omega)
  · rw [e6, oct, md1 _ _ (by omega)]; omega
theorem pcs_oct (x : Nat) : pcs 8 x = oct (t3 (t2 (t1 (x % 256)))) (t3 (t2 (t1 (x / 256 % 256)))) (t3 (t2 (t1 (x / 256 / 256 % 256)))) (t3 (t2 (t1 (x / 256 / 256 / 256 % 256)))) (t3 (t2 (t1 (x / 256 / 256 / 256 / 256 % 256))))
    (t3 (t2 (t1 (x / 256 / 256 / 256 / 256 / 256 % 256)))) (t3 (t2 (t1 (x / 256 / 256 / 256 / 256 / 256 / 256 % 256)))) (t3 (t2 (t1 (x / 256 / 256 / 256 / 256 / 256 / 256 / 256 % 256)))) := by
  simp only [pcs, oct, Nat.mul_zero, Nat.add_zero]
theorem low_byte (f : Nat → Bool) (k : Nat) : bitsN f (8 + k) % 256 = bitsN f 8 ∧ bitsN f (8 + k) / 256 = bitsN (fun i => f (8 + i)) k := by
  have := bitsN_split f 8 k
  have h := bitsN_lt f 8
  rw [this]
  omega
theorem s2_bd (n x : Nat) (hx : x < 256 ^ n) : s2 n x ≤ maskN 102 n := by
  induction n generalizing x with
  | zero => obtain rfl : x = 0 := by simpa using hx
            decide
  | succ n ih =>
    have h := t2_lt ⟨x % 256, by omega⟩
    dsimp only at h
    have h2 := ih (x / 256) (by rw [Nat.pow_succ] at hx; omega)
    rw [show x = x % 256 + 256 * (x / 256) by omega, s2_step n _ _ (by omega), maskN]
    omega
theorem cnt8_le (f : Nat → Bool) : cntN f 8 ≤ 8 := cntN_le f 8
/-- THE SUM BY LANES COUNTS THE BITS. -/
theorem ones64 (f : Nat → Bool) {x x1 x2 x3 x4 x5 x6 : Nat} (hx : x = bitsN f 64) (h1 : x1 = ((x / 2) &&& 6148914691236517205) + (x &&& 6148914691236517205)) (h2 : x2 = ((x1 / 4) &&& 3689348814741910323) + (x1 &&& 3689348814741910323))
    (h3 : x3 = (x2 / 16 + x2) &&& 1085102592571150095) (h4 : x4 = x3 + x3 / 256) (h5 : x5 = x4 + x4 / 65536) (h6 : x6 = x5 + x5 / 4294967296) :
    x < 18446744073709551616 ∧ x1 < 18446744073709551616 ∧ x2 < 18446744073709551616 ∧ x2 / 16 + x2 < 18446744073709551616 ∧ x3 < 18446744073709551616 ∧ x4 < 18446744073709551616 ∧ x5 < 18446744073709551616 ∧ x6 < 9223372036854775808 ∧ x6 % 128 = cntN f 64 := by
  have hx0 : x < 256 ^ 8 := by rw [hx]; exact bitsN_lt f 64
  have m1 : maskN 85 8 = 6148914691236517205 := by decide
  have m2 : maskN 51 8 = 3689348814741910323 := by decide
  have m3 : maskN 15 8 = 1085102592571150095 := by decide
  have m4 : maskN 102 8 = 7378697629483820646 := by decide
  have e1 : x1 = s1 8 x := by rw [h1, s1, m1]
  have l1 := s1_lt 8 x hx0
  rw [← e1] at l1
  have e2 : x2 = s2 8 x1 := by rw [h2, s2, m2]
  have l2 := s2_bd 8 x1 l1
  rw [← e2, m4] at l2
  have e3 : x3 = pcs 8 x := by rw [h3, ← lanes 8 x hx0, s3, m3, ← e1, ← e2]
  obtain ⟨b0, r0⟩ := low_byte f 56
  obtain ⟨b1, r1⟩ := low_byte (fun i => f (8 + i)) 48
  obtain ⟨b2, r2⟩ := low_byte (fun i => f (8 + (8 + i))) 40
  obtain ⟨b3, r3⟩ := low_byte (fun i => f (8 + (8 + (8 + i)))) 32
  obtain ⟨b4, r4⟩ := low_byte (fun i => f (8 + (8 + (8 + (8 + i))))) 24
  obtain ⟨b5, r5⟩ := low_byte (fun i => f (8 + (8 + (8 + (8 + (8 + i)))))) 16
  obtain ⟨b6, r6⟩ := low_byte (fun i => f (8 + (8 + (8 + (8 + (8 + (8 + i))))))) 8
  have b7 : bitsN (fun i => f (8 + (8 + (8 + (8 + (8 + (8 + (8 + i)))))))) 8 % 256 = bitsN (fun i => f (8 + (8 + (8 + (8 + (8 + (8 + (8 + i)))))))) 8 := Nat.mod_eq_of_lt (bitsN_lt _ 8)
  have hP : x3 = oct (cntN f 8) (cntN (fun i => f (8 + i)) 8) (cntN (fun i => f (8 + (8 + i))) 8) (cntN (fun i => f (8 + (8 + (8 + i)))) 8) (cntN (fun i => f (8 + (8 + (8 + (8 + i))))) 8) (cntN (fun i => f (8 + (8 + (8 + (8 + (8 + i)))))) 8)
      (cntN (fun i => f (8 + (8 + (8 + (8 + (8 + (8 + i))))))) 8) (cntN (fun i => f (8 + (8 + (8 + (8 + (8 + (8 + (8 + i)))))))) 8) := by
    rw [e3, pcs_oct, hx, show (64 : Nat) = 8 + 56 from rfl, b0, r0, show (56 : Nat) = 8 + 48 from rfl, b1, r1, show (48 : Nat) = 8 + 40 from rfl, b2, r2, show (40 : Nat) = 8 + 32 from rfl, b3, r3, show (32 : Nat) = 8 + 24 from rfl, b4, r4,
      show (24 : Nat) = 8 + 16 from rfl, b5, r5, show (16 : Nat) = 8 + 8 from rfl, b6, r6, b7]
    simp only [byte_bits]
  obtain ⟨g1, g2, g3, g4, g5⟩ := fold8 (cnt8_le _) (cnt8_le _) (cnt8_le _) (cnt8_le _) (cnt8_le _) (cnt8_le _) (cnt8_le _) (cnt8_le _) hP h4 h5 h6
  refine ⟨hx0, l1, by omega, by omega, g1, g2, g3, g4, ?_⟩
  rw [g5]
  have c0 := cntN_split f 8 56
  have c1 := cntN_split (fun i => f (8 + i)) 8 48
  have c2 := cntN_split (fun i => f (8 + (8 + i))) 8 40
  have c3 := cntN_split (fun i => f (8 + (8 + (8 + i)))) 8 32
  have c4 := cntN_split (fun i => f (8 + (8 + (8 + (8 + i))))) 8 24
  have c5 := cntN_split (fun i => f (8 + (8 + (8 + (8 + (8 + i)))))) 8 16
  have c6 := cntN_split (fun i => f (8 + (8 + (8 + (8 + (8 + (8 + i))))))) 8 8
  simp only [Nat.reduceAdd] at c0 c1 c2 c3 c4 c5 c6
  omega
end Go.Proofs.YtbkegknfmcanaaaDoor
