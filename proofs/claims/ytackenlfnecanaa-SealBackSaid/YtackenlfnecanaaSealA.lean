/-
  Package seal: which tags there are, their words, what seals them; and the reference's. No condition but the bounds of the kinds.
-/
import Derived.Test.YtackenlfnecanaaMixQ
import Derived.Test.YtackenlfnecanaaWordG
namespace Go.Proofs.Ytackenlfnecanaa
open Go.RowKit
attribute [local go_sem] Oper.semAt_some
set_option maxHeartbeats 400000

def rightI (c s : Int) : Bool := decide (0 ≤ c) && (decide (c < 8) && (decide (0 ≤ s) && decide (s ≤ 65535)))
theorem rightI_iff (c s : Int) : rightI c s = true ↔ 0 ≤ c ∧ c < 8 ∧ 0 ≤ s ∧ s ≤ 65535 := by simp [rightI]
theorem rightI_no (c s : Int) (h : ¬ (0 ≤ c ∧ c < 8 ∧ 0 ≤ s ∧ s ≤ 65535)) : rightI c s = false := by
  cases hr : rightI c s
  · rfl
  · exact absurd ((rightI_iff c s).1 hr) h
def wordI (c s n : Int) : Int := c * 281474976710656 + s * 4294967296 + n
def checkI (c s : Int) : Int := if rightI c s = true then 0 else 2
theorem checkI_yes (c s : Int) (h : rightI c s = true) : checkI c s = 0 := by simp [checkI, h]
theorem checkI_no (c s : Int) (h : rightI c s = false) : checkI c s = 2 := by simp [checkI, h]
theorem compl64 (n : Int) (h0 : 0 ≤ n) (h1 : n < 18446744073709551616) : bits BinOp.xor .u64 IntKind.u64.max n = 18446744073709551615 - n := by
  obtain ⟨x, rfl⟩ := Int.eq_ofNat_of_zero_le h0
  rw [show IntKind.u64.max = ((18446744073709551615 : Nat) : Int) from rfl, bits_xor_u64_nat _ x (by omega) (by omega)]
  have h2 : (18446744073709551615 ^^^ x : Nat) = 18446744073709551615 - x := by
    have := congrArg BitVec.toNat (BitVec.allOnes_xor (x := BitVec.ofNat 64 x))
    simp only [BitVec.toNat_xor, BitVec.toNat_allOnes, BitVec.toNat_not, BitVec.toNat_ofNat] at this
    rw [Nat.mod_eq_of_lt (by omega)] at this
    simpa using this
  rw [h2]; omega
theorem wordI_bd (c s n : Int) (hr : rightI c s = true) (hn : 0 ≤ n) (hn' : n < 4294967296) : 0 ≤ wordI c s n ∧ wordI c s n < 18446744073709551616 := by
  have := (rightI_iff c s).1 hr
  unfold wordI; omega
theorem right_calls (c s n : Int) (w : World) : Calls Try.prog 21 #[.agg #[.int .i64 c, .int .i64 s, .int .u32 n]] w fun e w' => e = .returned (.bool (rightI c s)) ∧ Below w.heap.size w w' := by
  by_cases h1 : 0 ≤ c
  · by_cases h2 : c < 8
    · by_cases h3 : 0 ≤ s
      · by_cases h4 : s ≤ 65535
        · go_enter Try.func21, Try.ntmps21
          go_wp2_with fail
          go_ret
          exact ⟨by first | (rw [rightI_no c s (by omega)]; rfl) | (rw [(rightI_iff c s).2 (by omega)]; rfl), (Below.refl _ w).alloc (Nat.le_refl _) _⟩
        · go_enter Try.func21, Try.ntmps21
          go_wp2_with fail
          go_ret
          exact ⟨by first | (rw [rightI_no c s (by omega)]; rfl) | (rw [(rightI_iff c s).2 (by omega)]; rfl), (Below.refl _ w).alloc (Nat.le_refl _) _⟩
      · go_enter Try.func21, Try.ntmps21
        go_wp2_with fail
        go_ret
        exact ⟨by first | (rw [rightI_no c s (by omega)]; rfl) | (rw [(rightI_iff c s).2 (by omega)]; rfl), (Below.refl _ w).alloc (Nat.le_refl _) _⟩
    · go_enter Try.func21, Try.ntmps21
      go_wp2_with fail
      go_ret
      exact ⟨by first | (rw [rightI_no c s (by omega)]; rfl) | (rw [(rightI_iff c s).2 (by omega)]; rfl), (Below.refl _ w).alloc (Nat.le_refl _) _⟩
  · go_enter Try.func21, Try.ntmps21
    go_wp2_with fail
    go_ret
    exact ⟨by first | (rw [rightI_no c s (by omega)]; rfl) | (rw [(rightI_iff c s).2 (by omega)]; rfl), (Below.refl _ w).alloc (Nat.le_refl _) _⟩
theorem Check_calls (c s n : Int) (w : World) : Calls Try.prog 9 #[.agg #[.int .i64 c, .int .i64 s, .int .u32 n]] w fun e w' => e = .returned (.int .i64 (checkI c s)) ∧ Below w.heap.size w w' := by
  go_enter Try.func9, Try.ntmps9
  go_wp2_with fail
  refine (right_calls _ _ _ _).mono ?_; rintro e w1 ⟨rfl, hb⟩
  have hB : Below w.heap.size w w1 := ((Below.refl _ w).alloc (Nat.le_refl _) _).trans (hb.mono (by simp))
  cases hr : rightI c s
  · go_wp2_with fail
    go_ret
    exact ⟨by rw [checkI_no c s hr]; rfl, hB⟩
  · go_wp2_with fail
    go_ret
    exact ⟨by rw [checkI_yes c s hr]; rfl, hB⟩
theorem word_bits (c s n : Int) (hc : 0 ≤ c) (hc' : c < 8) (hs : 0 ≤ s) (hs' : s ≤ 65535) (hn : 0 ≤ n) (hn' : n < 4294967296) :
    bits BinOp.or .u64 (bits BinOp.or .u64 (c * 281474976710656) (s * 4294967296)) n = wordI c s n := by
  rw [show bits BinOp.or .u64 (c * 281474976710656) (s * 4294967296) = c * 281474976710656 + s * 4294967296 from
    bits_join .u64 64 (by decide) wraps_u64' 48 _ _ (by omega) (by omega) (by omega) (by omega) (by omega) (by omega)]
  exact bits_join .u64 64 (by decide) wraps_u64' 32 _ _ (by omega) (by omega) (by omega) hn hn' (by omega)
theorem words_calls (c s n : Int) (hr : rightI c s = true) (hn : 0 ≤ n) (hn' : n < 4294967296) (w : World) : Calls Try.prog 34 #[.agg #[.int .i64 c, .int .i64 s, .int .u32 n]] w fun e w' =>
    e = .returned (.agg #[.int .u64 (wordI c s n), .int .u64 (18446744073709551615 - wordI c s n)]) ∧ Below w.heap.size w w' := by
  obtain ⟨h1, h2, h3, h4⟩ := (rightI_iff c s).1 hr
  have hw := word_bits c s n h1 h2 h3 h4 hn hn'
  have hb := wordI_bd c s n hr hn hn'
  have hx := compl64 _ hb.1 hb.2
  clear hb
  go_enter Try.func34, Try.ntmps34
  go_wp2_with fail
  exact bodyPost_ret (v := .agg #[.int .u64 (wordI c s n), .int .u64 (18446744073709551615 - wordI c s n)]) (by simp [results, Try.results34, go_sem]) rfl ⟨rfl, ((Below.refl _ w).alloc (Nat.le_refl _) _).alloc (by simp) _⟩
theorem rRight_calls (c s n : Int) (w : World) : Calls Try.prog 10 #[.agg #[.int .i64 c, .int .i64 s, .int .u32 n]] w fun e w' => e = .returned (.bool (rightI c s)) ∧ Below w.heap.size w w' := by
  by_cases h1 : 0 ≤ c
  · by_cases h2 : c < 8
    · by_cases h3 : 0 ≤ s
      · by_cases h4 : s ≤ 65535
        · go_enter Try.func10, Try.ntmps10
          go_wp2_with fail
          go_ret
          exact ⟨by first | (rw [rightI_no c s (by omega)]; rfl) | (rw [(rightI_iff c s).2 (by omega)]; rfl), (Below.refl _ w).alloc (Nat.le_refl _) _⟩
        · go_enter Try.func10, Try.ntmps10
          go_wp2_with fail
          go_ret
          exact ⟨by first | (rw [rightI_no c s (by omega)]; rfl) | (rw [(rightI_iff c s).2 (by omega)]; rfl), (Below.refl _ w).alloc (Nat.le_refl _) _⟩
      · go_enter Try.func10, Try.ntmps10
        go_wp2_with fail
        go_ret
        exact ⟨by first | (rw [rightI_no c s (by omega)]; rfl) | (rw [(rightI_iff c s).2 (by omega)]; rfl), (Below.refl _ w).alloc (Nat.le_refl _) _⟩
    · go_enter Try.func10, Try.ntmps10
      go_wp2_with fail
      go_ret
      exact ⟨by first | (rw [rightI_no c s (by omega)]; rfl) | (rw [(rightI_iff c s).2 (by omega)]; rfl), (Below.refl _ w).alloc (Nat.le_refl _) _⟩
  · go_enter Try.func10, Try.ntmps10
    go_wp2_with fail
    go_ret
    exact ⟨by first | (rw [rightI_no c s (by omega)]; rfl) | (rw [(rightI_iff c s).2 (by omega)]; rfl), (Below.refl _ w).alloc (Nat.le_refl _) _⟩
theorem rword_calls (c s n : Int) (hr : rightI c s = true) (hn : 0 ≤ n) (hn' : n < 4294967296) (w : World) : Calls Try.prog 24 #[.agg #[.int .i64 c, .int .i64 s, .int .u32 n]] w fun e w' =>
    e = .returned (.int .u64 (wordI c s n)) ∧ Below w.heap.size w w' := by
  obtain ⟨h1, h2, h3, h4⟩ := (rightI_iff c s).1 hr
  have hw := word_bits c s n h1 h2 h3 h4 hn hn'
  go_enter Try.func24, Try.ntmps24
  go_wp2_with fail
  go_ret
  exact ⟨rfl, (Below.refl _ w).alloc (Nat.le_refl _) _⟩
end Go.Proofs.Ytackenlfnecanaa
