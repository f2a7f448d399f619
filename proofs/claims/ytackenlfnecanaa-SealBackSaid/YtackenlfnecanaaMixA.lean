/-
  The functions of package mix and of its reference that hold no loop over a function: what each returns, as Int expressions. No condition but the bounds of the arguments' kinds.
-/
import Derived.Test.YtackenlfnecanaaRows
import Derived.Test.YtackenlfnecanaaCore
namespace Go.Proofs.Ytackenlfnecanaa
open Go.RowKit
set_option maxHeartbeats 400000

theorem and31_7 : bits BinOp.and IntKind.u64 7 31 = 7 := by decide
theorem and31_13 : bits BinOp.and IntKind.u64 13 31 = 13 := by decide
def rot7I (a : Int) : Int := bits BinOp.or IntKind.u32 (a * 128 % 4294967296) (a / 33554432)
def rot13I (a : Int) : Int := bits BinOp.or IntKind.u32 (a * 8192 % 4294967296) (a / 524288)
theorem rot7_calls (a : Int) (w : World) : Calls Try.prog 60 #[.int .u32 a, .int .i64 7] w fun e w' => e = .returned (.int .u32 (rot7I a)) ∧ w = w' := by
  have h7 := and31_7
  go_enter Try.func60, Try.ntmps60
  go_wp2
  go_ret
  exact ⟨rfl, rfl⟩
theorem rot13_calls (a : Int) (w : World) : Calls Try.prog 60 #[.int .u32 a, .int .i64 13] w fun e w' => e = .returned (.int .u32 (rot13I a)) ∧ w = w' := by
  have h7 := and31_13
  go_enter Try.func60, Try.ntmps60
  go_wp2
  go_ret
  exact ⟨rfl, rfl⟩
def stirI (a b : Int) : Int := rot13I ((bits BinOp.xor IntKind.u32 ((a + b) % 4294967296) (rot7I ((a + b) % 4294967296)) * 5 + 12345) % 4294967296)
theorem stir_calls (a b : Int) (w : World) : Calls Try.prog 43 #[.int .u32 a, .int .u32 b] w fun e w' => e = .returned (.int .u32 (stirI a b)) ∧ w = w' := by
  go_enter Try.func43, Try.ntmps43
  go_wp2_with fail
  refine (rot7_calls _ _).mono ?_; rintro e w' ⟨rfl, rfl⟩
  go_wp2_with fail
  refine (rot13_calls _ _).mono ?_; rintro e w' ⟨rfl, rfl⟩
  go_wp2_with fail
  go_ret
  exact ⟨rfl, rfl⟩
/-- The round number n of a key. -/
def roundI (key n : Int) : Int := ((if n % 2 = 1 then key / 4294967296 else key) % 4294967296 + n * 2654435769 % 4294967296) % 4294967296
theorem half_calls (a : Int) (b : Bool) (w : World) : Calls Try.prog 64 #[.int .u64 a, .bool b] w fun e w' => e = .returned (.int .u32 ((if b = true then a / 4294967296 else a) % 4294967296)) ∧ w = w' := by
  cases b
  · go_enter Try.func64, Try.ntmps64
    go_wp2
    go_ret
    exact ⟨rfl, rfl⟩
  · go_enter Try.func64, Try.ntmps64
    go_wp2
    go_ret
    exact ⟨rfl, rfl⟩
theorem round_calls (key n : Int) (h0 : 0 ≤ n) (h1 : n ≤ 7) (w : World) : Calls Try.prog 59 #[.agg #[.int .u64 key], .int .i64 n] w fun e w' => e = .returned (.int .u32 (roundI key n)) ∧ Below w.heap.size w w' := by
  by_cases hp : n % 2 = 1
  · go_enter Try.func59, Try.ntmps59
    go_wp2_with fail
    refine (half_calls _ _ _).mono ?_; rintro e w' ⟨rfl, rfl⟩
    go_wp2_with fail
    go_ret
    exact ⟨by simp [roundI, hp], (Below.refl _ _).alloc (Nat.le_refl _) _⟩
  · have hq : (n % 2 == 1) = false := by simpa using hp
    go_enter Try.func59, Try.ntmps59
    go_wp2_with fail
    refine (half_calls _ _ _).mono ?_; rintro e w' ⟨rfl, rfl⟩
    go_wp2_with fail
    go_ret
    exact ⟨by simp [roundI, hp], (Below.refl _ _).alloc (Nat.le_refl _) _⟩
theorem split_calls (a : Int) (w : World) : Calls Try.prog 41 #[.int .u64 a] w fun e w' => e = .returned (.agg #[.int .u32 (a / 4294967296 % 4294967296), .int .u32 (a % 4294967296)]) ∧ Below w.heap.size w w' := by
  go_enter Try.func41, Try.ntmps41
  go_wp2_with fail
  exact bodyPost_ret (v := .agg #[.int .u32 (a / 4294967296 % 4294967296), .int .u32 (a % 4294967296)]) (by simp [results, Try.results41, go_sem]) rfl ⟨rfl, (Below.refl _ _).alloc (Nat.le_refl _) _⟩
def joinedI (a b : Int) : Int := bits BinOp.or IntKind.u64 (a * 4294967296) b
theorem joined_calls (a b : Int) (ha : 0 ≤ a) (ha' : a < 4294967296) (hb : 0 ≤ b) (hb' : b < 4294967296) (w : World) : Calls Try.prog 44 #[.agg #[.int .u32 a, .int .u32 b]] w fun e w' => e = .returned (.int .u64 (joinedI a b)) ∧ Below w.heap.size w w' := by
  go_enter Try.func44, Try.ntmps44
  go_wp2_with fail
  go_ret
  exact ⟨rfl, (Below.refl _ _).alloc (Nat.le_refl _) _⟩
theorem numbers_calls (a : Int) (b : Bool) (w : World) : Calls Try.prog 42 #[.agg #[.int .u64 a], .bool b] w fun e w' =>
    e = .returned (.func (.func 58) #[] #[.pointer (some ⟨w.heap.size + 1, 0, none⟩), .pointer (some ⟨w.heap.size, 0, none⟩)]) ∧ w' = (w.alloc (.cells #[.int .u64 a] 89)).alloc (.cells #[.bool b] 4) := by
  go_enter Try.func42, Try.ntmps42
  go_wp2
  go_ret
  exact ⟨rfl, rfl⟩

/-! ### The reference -/
def turned7I (a : Int) : Int := bits BinOp.and IntKind.u64 (bits BinOp.or IntKind.u64 (a * 128) (a / 33554432)) 4294967295
def turned13I (a : Int) : Int := bits BinOp.and IntKind.u64 (bits BinOp.or IntKind.u64 (a * 8192) (a / 524288)) 4294967295
theorem turned7_calls (a : Int) (h0 : 0 ≤ a) (h1 : a < 4294967296) (w : World) : Calls Try.prog 61 #[.int .u64 a, .int .i64 7] w fun e w' => e = .returned (.int .u64 (turned7I a)) ∧ w = w' := by
  go_enter Try.func61, Try.ntmps61
  go_wp2
  go_ret
  exact ⟨rfl, rfl⟩
theorem turned13_calls (a : Int) (h0 : 0 ≤ a) (h1 : a < 4294967296) (w : World) : Calls Try.prog 61 #[.int .u64 a, .int .i64 13] w fun e w' => e = .returned (.int .u64 (turned13I a)) ∧ w = w' := by
  go_enter Try.func61, Try.ntmps61
  go_wp2
  go_ret
  exact ⟨rfl, rfl⟩
theorem mask_bd (x : Int) : 0 ≤ bits BinOp.and IntKind.u64 x 4294967295 ∧ bits BinOp.and IntKind.u64 x 4294967295 < 4294967296 := by
  have h : (BitVec.ofInt 64 x &&& BitVec.ofInt 64 4294967295).toNat ≤ 4294967295 := by
    rw [BitVec.toNat_and]; exact Nat.le_trans Nat.and_le_right (by decide)
  show 0 ≤ IntKind.u64.wrap ((BitVec.ofInt 64 x &&& BitVec.ofInt 64 4294967295).toNat : Int) ∧ IntKind.u64.wrap ((BitVec.ofInt 64 x &&& BitVec.ofInt 64 4294967295).toNat : Int) < 4294967296
  rw [IntKind.wrap_u64]
  omega
def rstirI (a b : Int) : Int := turned13I (bits BinOp.and IntKind.u64 (bits BinOp.xor IntKind.u64 (bits BinOp.and IntKind.u64 (a + b) 4294967295) (turned7I (bits BinOp.and IntKind.u64 (a + b) 4294967295)) * 5 + 12345) 4294967295)
theorem xor_bd64 (a b : Int) (ha : 0 ≤ a) (ha' : a < 4294967296) (hb : 0 ≤ b) (hb' : b < 4294967296) : 0 ≤ bits BinOp.xor IntKind.u64 a b ∧ bits BinOp.xor IntKind.u64 a b < 4294967296 := by
  obtain ⟨x, rfl⟩ := Int.eq_ofNat_of_zero_le ha
  obtain ⟨y, rfl⟩ := Int.eq_ofNat_of_zero_le hb
  rw [bits_xor_u64_nat x y (by omega) (by omega)]
  have := Nat.xor_lt_two_pow (x := x) (y := y) (n := 32) (by omega) (by omega)
  omega
theorem rstir_calls (a b : Int) (ha : 0 ≤ a) (ha' : a < 4294967296) (hb : 0 ≤ b) (hb' : b < 4294967296) (w : World) : Calls Try.prog 48 #[.int .u64 a, .int .u64 b] w fun e w' => e = .returned (.int .u64 (rstirI a b)) ∧ w = w' := by
  have m1 := mask_bd (a + b)
  go_enter Try.func48, Try.ntmps48
  go_wp2_with fail
  refine (turned7_calls _ m1.1 m1.2 _).mono ?_; rintro e w' ⟨rfl, rfl⟩
  have t1 : 0 ≤ turned7I (bits BinOp.and IntKind.u64 (a + b) 4294967295) ∧ turned7I (bits BinOp.and IntKind.u64 (a + b) 4294967295) < 4294967296 := mask_bd _
  have x1 := xor_bd64 _ _ m1.1 m1.2 t1.1 t1.2
  go_wp2_with fail
  refine (turned13_calls _ (mask_bd _).1 (mask_bd _).2 _).mono ?_; rintro e w' ⟨rfl, rfl⟩
  go_wp2_with fail
  go_ret
  exact ⟨rfl, rfl⟩
def rroundI (k n : Int) : Int := bits BinOp.and IntKind.u64 ((if n % 2 = 1 then k / 4294967296 else bits BinOp.and IntKind.u64 k 4294967295) + n * 2654435769) 4294967295
theorem rRound_calls (k n : Int) (hk : 0 ≤ k) (hk' : k < 18446744073709551616) (h0 : 0 ≤ n) (h1 : n ≤ 7) (w : World) : Calls Try.prog 49 #[.int .u64 k, .int .i64 n] w fun e w' => e = .returned (.int .u64 (rroundI k n)) ∧ w = w' := by
  by_cases hp : n % 2 = 1
  · go_enter Try.func49, Try.ntmps49
    go_wp2
    go_ret
    exact ⟨by simp [rroundI, hp], rfl⟩
  · have hq : (n % 2 == 1) = false := by simpa using hp
    have m1 := mask_bd k
    go_enter Try.func49, Try.ntmps49
    go_wp2
    go_ret
    exact ⟨by simp [rroundI, hp], rfl⟩
def rstepI (key : Int) (h : Int × Int) (n : Nat) : Int × Int := (h.2, bits BinOp.xor IntKind.u64 h.1 (rstirI h.2 (rroundI key n)))
def rmixedI (key n : Int) (k : Nat) : Int × Int := (List.range k).foldl (rstepI key) (n / 4294967296, bits BinOp.and IntKind.u64 n 4294967295)
theorem rmixedI_succ (key n : Int) (k : Nat) : rmixedI key n (k + 1) = rstepI key (rmixedI key n k) k := by simp [rmixedI, List.range_succ]
theorem rstir_bd (a b : Int) : 0 ≤ rstirI a b ∧ rstirI a b < 4294967296 := mask_bd _
theorem rmixed_bd (key n : Int) (hn : 0 ≤ n) (hn' : n < 18446744073709551616) (k : Nat) : 0 ≤ (rmixedI key n k).1 ∧ (rmixedI key n k).1 < 4294967296 ∧ 0 ≤ (rmixedI key n k).2 ∧ (rmixedI key n k).2 < 4294967296 := by
  induction k with
  | zero => exact ⟨by show 0 ≤ n / 4294967296; omega, by show n / 4294967296 < 4294967296; omega, (mask_bd n).1, (mask_bd n).2⟩
  | succ k ih =>
    rw [rmixedI_succ]
    have x := xor_bd64 _ _ ih.1 ih.2.1 (rstir_bd (rmixedI key n k).2 (rroundI key k)).1 (rstir_bd (rmixedI key n k).2 (rroundI key k)).2
    exact ⟨ih.2.2.1, ih.2.2.2, x.1, x.2⟩
def rjoinedI (a b : Int) : Int := bits BinOp.or IntKind.u64 (a * 4294967296) b
theorem rMix_calls (key n : Int) (hk : 0 ≤ key) (hk' : key < 18446744073709551616) (hn : 0 ≤ n) (hn' : n < 18446744073709551616) (w : World) : Calls Try.prog 38 #[.int .u64 key, .int .u64 n] w fun e w' =>
    e = .returned (.int .u64 (rjoinedI (rmixedI key n 8).1 (rmixedI key n 8).2)) ∧ w = w' := by
  go_enter Try.func38, Try.ntmps38
  go_wp2_with fail
  go_loop [5, 6, 7] (fun a b i => ∃ k : Nat, k ≤ 8 ∧ i = .int .i64 k ∧ a = .int .u64 (rmixedI key n k).1 ∧ b = .int .u64 (rmixedI key n k).2) (fun _ _ i => 8 - (intOf i).toNat)
  case atStart => exact ⟨0, by omega, rfl, rfl, rfl⟩
  case round =>
    obtain ⟨k, hkk, rfl, rfl, rfl⟩ := hrel
    have bd := rmixed_bd key n hn hn' k
    obtain ⟨b1, b2, b3, b4⟩ := bd
    by_cases hlt : k < 8
    · go_wp2_with fail
      refine (rRound_calls _ _ hk hk' (by omega) (by omega) _).mono ?_; rintro e w' ⟨rfl, rfl⟩
      go_wp2_with fail
      refine (rstir_calls _ _ b3 b4 (mask_bd _).1 (mask_bd _).2 _).mono ?_; rintro e w' ⟨rfl, rfl⟩
      go_wp2_with fail
      go_round
      case rel => exact ⟨k + 1, by omega, by go_num, by rw [rmixedI_succ]; rfl, by rw [rmixedI_succ]; rfl⟩
      case measure => simp [intOf]; omega
    · obtain rfl : k = 8 := by omega
      go_wp2_with fail
      go_ret
      exact ⟨rfl, rfl⟩
end Go.Proofs.Ytackenlfnecanaa
