/-
  The reference's words are the program's: the two Int expressions are equal within the bounds of the kinds; what is mixed is undone. Plain arithmetic; conditions: the bounds.
-/
import Derived.Test.YtackenlfnecanaaMixC
namespace Go.Proofs.Ytackenlfnecanaa
open Go.RowKit

theorem wraps_u64' (n : Int) (h0 : 0 ≤ n) (h1 : n < 2 ^ 64) : IntKind.u64.wrap n = n := by rw [IntKind.wrap_u64]; omega
theorem wraps_u32' (n : Int) (h0 : 0 ≤ n) (h1 : n < 2 ^ 32) : IntKind.u32.wrap n = n := by rw [IntKind.wrap_u32]; omega
theorem mask_eq (x : Int) (h0 : 0 ≤ x) (h1 : x < 18446744073709551616) : bits BinOp.and IntKind.u64 x 4294967295 = x % 4294967296 :=
  bits_mask .u64 64 (by decide) wraps_u64' 32 (by decide) x h0 h1
theorem or64 (a b : Nat) (ha : a < 18446744073709551616) (hb : b < 18446744073709551616) : bits .or .u64 (a : Int) (b : Int) = ((a ||| b : Nat) : Int) := (bits_nat .u64 64 (by decide) wraps_u64' a b ha hb).2
theorem or32 (a b : Nat) (ha : a < 4294967296) (hb : b < 4294967296) : bits .or .u32 (a : Int) (b : Int) = ((a ||| b : Nat) : Int) := (bits_nat .u32 32 (by decide) wraps_u32' a b ha hb).2
theorem xor32 (a b : Nat) (ha : a < 4294967296) (hb : b < 4294967296) : bits .xor .u32 (a : Int) (b : Int) = ((a ^^^ b : Nat) : Int) := by
  have hx : a ^^^ b < 2 ^ 32 := Nat.xor_lt_two_pow (by omega) (by omega)
  have h1 : (BitVec.ofInt 32 (a : Int)).toNat = a := by rw [BitVec.ofInt_natCast, BitVec.toNat_ofNat]; exact Nat.mod_eq_of_lt (by omega)
  have h2 : (BitVec.ofInt 32 (b : Int)).toNat = b := by rw [BitVec.ofInt_natCast, BitVec.toNat_ofNat]; exact Nat.mod_eq_of_lt (by omega)
  show IntKind.u32.wrap ((BitVec.ofInt 32 (a : Int) ^^^ BitVec.ofInt 32 (b : Int)).toNat : Int) = _
  rw [BitVec.toNat_xor, h1, h2, IntKind.wrap_u32]
  omega
theorem xor_eq (a b : Int) (ha : 0 ≤ a) (ha' : a < 4294967296) (hb : 0 ≤ b) (hb' : b < 4294967296) : bits .xor .u64 a b = bits .xor .u32 a b := by
  obtain ⟨x, rfl⟩ := Int.eq_ofNat_of_zero_le ha
  obtain ⟨y, rfl⟩ := Int.eq_ofNat_of_zero_le hb
  rw [xor32 x y (by omega) (by omega), bits_xor_u64_nat x y (by omega) (by omega)]
theorem turn_eq (x s t : Nat) (hx : x < 4294967296) (hs : s * t = 4294967296) : (x * s ||| x / t) % 4294967296 = x * s % 4294967296 ||| x / t := by
  have h : (4294967296 : Nat) = 2 ^ 32 := by decide
  have hd : x / t < 4294967296 := Nat.lt_of_le_of_lt (Nat.div_le_self _ _) hx
  rw [h, Nat.or_mod_two_pow, ← h, Nat.mod_eq_of_lt hd]
theorem turned7_eq (a : Int) (h0 : 0 ≤ a) (h1 : a < 4294967296) : turned7I a = rot7I a := by
  obtain ⟨x, rfl⟩ := Int.eq_ofNat_of_zero_le h0
  have e1 : (x : Int) * 128 = ((x * 128 : Nat) : Int) := by omega
  have e2 : (x : Int) / 33554432 = ((x / 33554432 : Nat) : Int) := by omega
  have e3 : (x : Int) * 128 % 4294967296 = ((x * 128 % 4294967296 : Nat) : Int) := by omega
  have hx : x < 4294967296 := by omega
  unfold turned7I rot7I
  rw [e3, e2, or32 _ _ (by omega) (by omega), e1, or64 _ _ (by omega) (by omega), mask_eq _ (by omega) (by have := Nat.or_lt_two_pow (x := x * 128) (y := x / 33554432) (n := 64) (by omega) (by omega); omega), ← turn_eq x 128 33554432 hx rfl]
  omega
theorem turned13_eq (a : Int) (h0 : 0 ≤ a) (h1 : a < 4294967296) : turned13I a = rot13I a := by
  obtain ⟨x, rfl⟩ := Int.eq_ofNat_of_zero_le h0
  have e1 : (x : Int) * 8192 = ((x * 8192 : Nat) : Int) := by omega
  have e2 : (x : Int) / 524288 = ((x / 524288 : Nat) : Int) := by omega
  have e3 : (x : Int) * 8192 % 4294967296 = ((x * 8192 % 4294967296 : Nat) : Int) := by omega
  have hx : x < 4294967296 := by omega
  unfold turned13I rot13I
  rw [e3, e2, or32 _ _ (by omega) (by omega), e1, or64 _ _ (by omega) (by omega), mask_eq _ (by omega) (by have := Nat.or_lt_two_pow (x := x * 8192) (y := x / 524288) (n := 64) (by omega) (by omega); omega), ← turn_eq x 8192 524288 hx rfl]
  omega
theorem rot7_bd (a : Int) : 0 ≤ rot7I a ∧ rot7I a < 4294967296 := by unfold rot7I; exact bits32_bd _ _ _
theorem stir_bd (a b : Int) : 0 ≤ stirI a b ∧ stirI a b < 4294967296 := by unfold stirI rot13I; exact bits32_bd _ _ _
theorem rstir_eq (a b : Int) (ha : 0 ≤ a) (ha' : a < 4294967296) (hb : 0 ≤ b) (hb' : b < 4294967296) : rstirI a b = stirI a b := by
  unfold rstirI stirI
  have h1 : 0 ≤ (a + b) % 4294967296 ∧ (a + b) % 4294967296 < 4294967296 := by omega
  rw [mask_eq (a + b) (by omega) (by omega), turned7_eq _ h1.1 h1.2, xor_eq _ _ h1.1 h1.2 (rot7_bd _).1 (rot7_bd _).2]
  have h2 := bits32_bd BinOp.xor ((a + b) % 4294967296) (rot7I ((a + b) % 4294967296))
  generalize bits BinOp.xor IntKind.u32 ((a + b) % 4294967296) (rot7I ((a + b) % 4294967296)) = y at h2 ⊢
  rw [mask_eq _ (by omega) (by omega), turned13_eq _ (by omega) (by omega)]
theorem rround_eq (k n : Int) (hk : 0 ≤ k) (hk' : k < 18446744073709551616) (h0 : 0 ≤ n) (h1 : n ≤ 7) : rroundI k n = roundI k n := by
  unfold rroundI roundI
  rw [mask_eq k hk hk']
  split
  · rw [mask_eq _ (by omega) (by omega)]; omega
  · rw [mask_eq _ (by omega) (by omega)]; omega
theorem round_bd (k n : Int) : 0 ≤ roundI k n ∧ roundI k n < 4294967296 := by unfold roundI; omega
theorem numsI_false (key : Int) : numsI key false = (List.range 8).map fun (n : Nat) => roundI key n := by simp [numsI]
theorem rmixed_eq (key n : Int) (hk : 0 ≤ key) (hk' : key < 18446744073709551616) (hn : 0 ≤ n) (hn' : n < 18446744073709551616) : rmixedI key n 8 = mixedI key n (numsI key false) := by
  have gen : ∀ k : Nat, k ≤ 8 → rmixedI key n k = mixedI key n ((numsI key false).take k) := by
    intro k
    induction k with
    | zero => intro _; simp only [List.take_zero]; show (n / 4294967296, _) = (n / 4294967296 % 4294967296, n % 4294967296); rw [mask_eq n hn hn', Int.emod_eq_of_lt (a := n / 4294967296) (by omega) (by omega)]
    | succ k ih =>
      intro hle
      have hl : k < (numsI key false).length := by rw [numsI_len]; omega
      rw [rmixedI_succ, take_next _ _ hl, mixedI_snoc, ih (by omega), numsI_get]
      have bd := mixed_bd key n ((numsI key false).take k)
      simp only [Bool.false_eq_true, if_false]
      unfold rstepI stepI
      have e := rround_eq key k hk hk' (by omega) (by omega)
      have rb := round_bd key k
      rw [e, rstir_eq _ _ bd.2.2.1 bd.2.2.2 rb.1 rb.2]
      rw [xor_eq _ _ bd.1 bd.2.1 (stir_bd _ _).1 (stir_bd _ _).2]
  have := gen 8 (Nat.le_refl _)
  rwa [List.take_of_length_le (by rw [numsI_len]; omega)] at this
/-- A word mixed, undone. -/
def mixI (key n : Int) : Int := joinedI (mixedI key n (numsI key false)).1 (mixedI key n (numsI key false)).2
def undoI (key n : Int) : Int := joinedI (undoneI key n (numsI key true)).1 (undoneI key n (numsI key true)).2
theorem joined_eq (a b : Int) (ha : 0 ≤ a) (ha' : a < 4294967296) (hb : 0 ≤ b) (hb' : b < 4294967296) : joinedI a b = a * 4294967296 + b :=
  bits_join .u64 64 (by decide) wraps_u64' 32 _ _ (by omega) (by omega) (by omega) hb hb' (by omega)
theorem mix_bd (key n : Int) : 0 ≤ mixI key n ∧ mixI key n < 18446744073709551616 := by
  have h := mixed_bd key n (numsI key false)
  unfold mixI; rw [joined_eq _ _ h.1 h.2.1 h.2.2.1 h.2.2.2]; omega
theorem undo_bd (key n : Int) : 0 ≤ undoI key n ∧ undoI key n < 18446744073709551616 := by
  have h := undone_bd key n (numsI key true)
  unfold undoI; rw [joined_eq _ _ h.1 h.2.1 h.2.2.1 h.2.2.2]; omega
theorem xor_xor32 (a s : Int) (ha : 0 ≤ a) (ha' : a < 4294967296) (hs : 0 ≤ s) (hs' : s < 4294967296) : bits .xor .u32 (bits .xor .u32 a s) s = a := by
  obtain ⟨x, rfl⟩ := Int.eq_ofNat_of_zero_le ha
  obtain ⟨y, rfl⟩ := Int.eq_ofNat_of_zero_le hs
  have hx := Nat.xor_lt_two_pow (x := x) (y := y) (n := 32) (by omega) (by omega)
  rw [xor32 x y (by omega) (by omega), xor32 _ _ (by omega) (by omega), Nat.xor_assoc, Nat.xor_self, Nat.xor_zero]
def Half (h : Int × Int) : Prop := 0 ≤ h.1 ∧ h.1 < 4294967296 ∧ 0 ≤ h.2 ∧ h.2 < 4294967296
theorem back_step (h : Int × Int) (k : Int) (hh : Half h) : backI (stepI h k) k = h := by
  unfold backI stepI
  rw [xor_xor32 _ _ hh.1 hh.2.1 (stir_bd _ _).1 (stir_bd _ _).2]
theorem step_back (h : Int × Int) (k : Int) (hh : Half h) : stepI (backI h k) k = h := by
  unfold backI stepI
  rw [xor_xor32 _ _ hh.2.2.1 hh.2.2.2 (stir_bd _ _).1 (stir_bd _ _).2]
theorem half_step (h : Int × Int) (k : Int) (hh : Half h) : Half (stepI h k) := ⟨hh.2.2.1, hh.2.2.2, bits32_bd BinOp.xor h.1 (stirI h.2 k)⟩
theorem half_back (h : Int × Int) (k : Int) (hh : Half h) : Half (backI h k) := ⟨(bits32_bd BinOp.xor h.2 (stirI h.1 k)).1, (bits32_bd BinOp.xor h.2 (stirI h.1 k)).2, hh.1, hh.2.1⟩
theorem fold_back (l : List Int) : ∀ (h : Int × Int), Half h → (l.reverse).foldl backI (l.foldl stepI h) = h := by
  induction l with
  | nil => exact fun h _ => rfl
  | cons k l ih => intro h hh; simp only [List.reverse_cons, List.foldl_append, List.foldl_cons, List.foldl_nil]; rw [ih _ (half_step _ _ hh), back_step _ _ hh]
theorem fold_forth (l : List Int) : ∀ (h : Int × Int), Half h → l.foldl stepI ((l.reverse).foldl backI h) = h := by
  induction l with
  | nil => exact fun h _ => rfl
  | cons k l ih =>
    intro h hh
    have hb : Half (l.reverse.foldl backI h) := by
      have gen : ∀ (m : List Int) (h : Int × Int), Half h → Half (m.foldl backI h) := by
        intro m; induction m with
        | nil => exact fun _ h => h
        | cons x m ih => exact fun h hh => ih _ (half_back _ _ hh)
      exact gen _ _ hh
    simp only [List.reverse_cons, List.foldl_append, List.foldl_cons, List.foldl_nil]
    rw [step_back _ _ hb, ih _ hh]
theorem nums_rev (key : Int) : numsI key true = (numsI key false).reverse := by simp [numsI, List.range_succ]
theorem half_of (n : Int) : Half (n / 4294967296 % 4294967296, n % 4294967296) := ⟨by dsimp only; omega, by dsimp only; omega, by dsimp only; omega, by dsimp only; omega⟩
theorem split_join (h : Int × Int) (hh : Half h) : (joinedI h.1 h.2 / 4294967296 % 4294967296, joinedI h.1 h.2 % 4294967296) = h := by
  obtain ⟨a, b⟩ := h
  obtain ⟨h1, h2, h3, h4⟩ := hh
  simp only at *
  rw [joined_eq a b h1 h2 h3 h4]
  refine Prod.ext ?_ ?_ <;> dsimp only <;> omega
theorem join_split (n : Int) (hn : 0 ≤ n) (hn' : n < 18446744073709551616) : joinedI (n / 4294967296 % 4294967296) (n % 4294967296) = n := by
  rw [joined_eq _ _ (by omega) (by omega) (by omega) (by omega)]; omega
theorem undo_mix (key n : Int) (hn : 0 ≤ n) (hn' : n < 18446744073709551616) : undoI key (mixI key n) = n := by
  have hm := mixed_bd key n (numsI key false)
  unfold undoI mixI undoneI
  rw [split_join _ hm, nums_rev]
  unfold mixedI
  rw [fold_back _ _ (half_of n)]
  exact join_split n hn hn'
theorem mix_undo (key n : Int) (hn : 0 ≤ n) (hn' : n < 18446744073709551616) : mixI key (undoI key n) = n := by
  have hm := undone_bd key n (numsI key true)
  unfold undoI mixI mixedI
  rw [split_join _ hm, nums_rev]
  unfold undoneI
  rw [fold_forth _ _ (half_of n)]
  exact join_split n hn hn'
end Go.Proofs.Ytackenlfnecanaa
