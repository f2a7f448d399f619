/-
  Package word: Put, and the reference's.
-/
import Derived.Test.YtackenlfnecanaaWordA
namespace Go.Proofs.Ytackenlfnecanaa
open Go.RowKit
attribute [local go_sem] Oper.semAt_some
set_option maxHeartbeats 400000

theorem isW_cases {n : Int} (h : isW n = true) : n = 1 ∨ n = 2 ∨ n = 4 ∨ n = 8 := by
  simp only [isW, hasI, List.mem_cons, List.not_mem_nil, or_false, decide_eq_true_eq] at h; exact h
theorem Put_arg (n W : Int) (h : isW W = false) (w : World) : Calls Try.prog 35 #[.int .u64 n, .int .i64 W] w fun e w' => e = .returned (.tuple #[.slice none 0 0, .int .i64 2]) ∧ Below w.heap.size w w' := by
  go_enter Try.func35, Try.ntmps35
  go_wp2_with fail
  refine wp_scope_fwd 0 rfl ?_
  go_wp2_with (first | go_step3 | rw [fwd_goto] | rw [fwd_ret] | rw [Exit.noGoto_ret])
  refine (is_calls _ _).mono ?_; rintro e w1 ⟨rfl, hb⟩
  go_wp2_with (first | go_step3 | rw [fwd_goto] | rw [fwd_ret] | rw [Exit.noGoto_ret])
  go_ret2
  exact ⟨rfl, ((Below.refl _ w).alloc (Nat.le_refl _) _).trans (hb.mono (by simp))⟩
theorem Put_range (n : Int) (k : Nat) (hn : 0 ≤ n) (hn' : n < 18446744073709551616) (h : isW k = true) (hf : fitsI k n = false) (w : World) : Calls Try.prog 35 #[.int .u64 n, .int .i64 k] w fun e w' => e = .returned (.tuple #[.slice none 0 0, .int .i64 4]) ∧ Below w.heap.size w w' := by
  have hk := Lib.hid (isW_cases h)
  have hX := Lib.hid (Blk.new w #[.int .i64 k, .int .u64 n] 101)
  go_enter Try.func35, Try.ntmps35
  go_wp2_with fail
  refine wp_scope_fwd 0 rfl ?_
  go_wp2_with (first | go_step3 | rw [fwd_goto] | rw [fwd_ret] | rw [Exit.noGoto_ret])
  refine (is_calls _ _).mono ?_; rintro e w1 ⟨rfl, hb⟩
  have hX1 := hX.out.below hb (by simp)
  have c0 : w1.cell? ⟨w.heap.size, 0, none⟩ = some (.int .i64 k) := hX1.cell 0 rfl
  have c1 : w1.cell? ⟨w.heap.size, 1, none⟩ = some (.int .u64 n) := hX1.cell 1 rfl
  go_wp2_with (first | go_step3 | rw [fwd_goto] | rw [fwd_ret] | rw [Exit.noGoto_ret])
  refine (fits_calls k n hn hn' (by have := hk.out; omega) _).mono ?_; rintro e w2 ⟨rfl, hb2⟩
  go_wp2_with (first | go_step3 | rw [fwd_goto] | rw [fwd_ret] | rw [Exit.noGoto_ret])
  go_ret2
  have hz := hb.size
  simp at hz
  exact ⟨rfl, (((Below.refl _ w).alloc (Nat.le_refl _) _).trans (hb.mono (by simp))).trans (hb2.mono (by omega))⟩
theorem Put_ok (n : Int) (k : Nat) (hn : 0 ≤ n) (hn' : n < 18446744073709551616) (h : isW k = true) (hf : fitsI k n = true) (w : World) : Calls Try.prog 35 #[.int .u64 n, .int .i64 k] w fun e w' =>
    ∃ v, e = .returned (.tuple #[v, .int .i64 0]) ∧ w'.ownsRow w.heap.size 5 1 v k (intVals .u8 (bytesI n k)) ∧ Below w.heap.size w w' := by
  have hk := Lib.hid (isW_cases h)
  have hX := Lib.hid (Blk.new w #[.int .i64 k, .int .u64 n] 101)
  go_enter Try.func35, Try.ntmps35
  go_wp2_with fail
  refine wp_scope_fwd 0 rfl ?_
  go_wp2_with (first | go_step3 | rw [fwd_goto] | rw [fwd_ret] | rw [Exit.noGoto_ret])
  refine (is_calls _ _).mono ?_; rintro e w1 ⟨rfl, hb⟩
  have hX1 := hX.out.below hb (by simp)
  have hz := hb.size
  simp at hz
  have c0 : w1.cell? ⟨w.heap.size, 0, none⟩ = some (.int .i64 k) := hX1.cell 0 rfl
  have c1 : w1.cell? ⟨w.heap.size, 1, none⟩ = some (.int .u64 n) := hX1.cell 1 rfl
  go_wp2_with (first | go_step3 | rw [fwd_goto] | rw [fwd_ret] | rw [Exit.noGoto_ret])
  refine (fits_calls k n hn hn' (by have := hk.out; omega) _).mono ?_; rintro e w2 ⟨rfl, hb2⟩
  have hz2 := hb2.size
  have hX2 := hX1.below hb2 (by omega)
  have d0 : w2.cell? ⟨w.heap.size, 0, none⟩ = some (.int .i64 k) := hX2.cell 0 rfl
  have d1 : w2.cell? ⟨w.heap.size, 1, none⟩ = some (.int .u64 n) := hX2.cell 1 rfl
  clear c0 c1
  go_wp2_with (first | go_step3 | rw [fwd_goto] | rw [fwd_ret] | rw [Exit.noGoto_ret])
  refine (bytes_calls n k hn hn' (by have := hk.out; omega) _).mono ?_; rintro e w3 ⟨v, rfl, ho, hb3⟩
  go_wp2_with (first | go_step3 | rw [fwd_goto] | rw [fwd_ret] | rw [Exit.noGoto_ret])
  go_ret2
  exact ⟨v, rfl, owns_weaken ho (by omega), ((((Below.refl _ w).alloc (Nat.le_refl _) _).trans (hb.mono (by simp))).trans (hb2.mono (by omega))).trans (hb3.mono (by omega))⟩

/-! ### The reference -/
theorem isW_eq (n : Int) : isW n = (n == 1 || n == 2 || n == 4 || n == 8) := by
  rw [Bool.eq_iff_iff]; simp [isW, hasI, or_assoc]
theorem Width_calls (n : Int) (w : World) : Calls Try.prog 47 #[.int .i64 n] w fun e w' => e = .returned (.bool (isW n)) ∧ w = w' := by
  rw [isW_eq]
  go_enter Try.func47, Try.ntmps47
  go_wp2_with fail
  all_goals go_ret
  all_goals refine ⟨?_, rfl⟩
  all_goals first | rfl | (simp_all; done)
theorem rPut_arg (n W : Int) (h : isW W = false) (w : World) : Calls Try.prog 37 #[.int .u64 n, .int .i64 W] w fun e w' => e = .returned (.tuple #[.slice none 0 0, .int .i64 2]) ∧ Below w.heap.size w w' := by
  go_enter Try.func37, Try.ntmps37
  go_wp2_with fail
  refine (Width_calls _ _).mono ?_; rintro e w1 ⟨rfl, rfl⟩
  go_wp2_with fail
  go_ret2
  exact ⟨rfl, Below.refl _ _⟩
theorem bytesI_succ (n : Int) (k : Nat) : bytesI n (k + 1) = bytesI n k ++ [byteI n k] := by simp [bytesI, List.range_succ]
theorem bytesI_len (n : Int) (k : Nat) : (bytesI n k).length = k := by simp [bytesI]
theorem byteI_bd (n : Int) (k : Nat) : 0 ≤ byteI n k ∧ byteI n k < 256 := by unfold byteI; omega
theorem div_step (n : Int) (j : Nat) : n / 256 ^ j / 256 = n / 256 ^ (j + 1) := by
  rw [Int.pow_succ, Int.ediv_ediv_of_nonneg (by exact Int.le_of_lt (Int.pow_pos (by decide)))]
theorem rPut_loop (n : Int) (k : Nat) (hn : 0 ≤ n) (hn' : n < 18446744073709551616) (h : isW k = true) (w : World) : Calls Try.prog 37 #[.int .u64 n, .int .i64 k] w fun e w' =>
    (fitsI k n = true ∧ ∃ v, e = .returned (.tuple #[v, .int .i64 0]) ∧ w'.ownsRow w.heap.size 5 1 v k (intVals .u8 (bytesI n k)) ∧ Below w.heap.size w w') ∨
    (fitsI k n = false ∧ e = .returned (.tuple #[.slice none 0 0, .int .i64 4]) ∧ Below w.heap.size w w') := by
  have hk := isW_cases h
  have hk8 : k ≤ 8 := by omega
  clear hk
  go_enter Try.func37, Try.ntmps37
  go_wp2_with fail
  refine (Width_calls _ _).mono ?_; rintro e w1 ⟨rfl, rfl⟩
  go_wp2_with fail
  go_loopw [0, 6, 7] (fun m v i wr => ∃ j : Nat, j ≤ k ∧ i = .int .i64 j ∧ m = .int .u64 (n / 256 ^ j) ∧ wr.ownsRow w.heap.size 5 1 v j (intVals .u8 (bytesI n j)) ∧ Below w.heap.size w wr) (fun _ _ i _ => k - (intOf i).toNat)
  case atStart => exact ⟨0, by omega, rfl, by simp, World.ownsRow_nil _ _ _ _, Below.refl _ _⟩
  case round =>
    obtain ⟨j, hj, rfl, rfl, ho, hb⟩ := hrel
    have hz := hb.size
    have n0 : 0 ≤ n / 256 ^ j := Int.ediv_nonneg hn (Int.le_of_lt (Int.pow_pos (by decide)))
    have n1 : n / 256 ^ j ≤ n := Int.ediv_le_self _ hn
    by_cases hlt : j < k
    · have hds := Lib.hid (div_step n j)
      have hbs := Lib.hid (bytesI_succ n j)
      have hbd := byteI_bd n j
      have hbe : n / 256 ^ j % 256 = byteI n j := rfl
      have hbl := bytesI_len n j
      clear hbl
      generalize hq : n / 256 ^ j = q at *
      have hq' := Lib.hid hq
      clear hq
      go_wp2_with (at_builtin; refine wpList_append_row rfl _ _ 28 rfl w.heap.size Try.underlying28 info8 j (intVals .u8 (bytesI n j)) rfl ?c1 (wr.heap.size + 1) 1 [.int .u8 (byteI n j)] rfl ?c2 ?c3 ?c4 ?c5 ?c6 ?c7 ?_)
      case c1 => exact ho.alloc _
      case c2 => exact RowAt.lit wr #[.int .u8 (byteI n j)] 5 1 _ (by omega)
      case c3 => rfl
      case c4 => intro u hu; simp at hu; subst hu; rfl
      case c5 => unfold maxLen; omega
      case c6 => omega
      case c7 => simp; omega
      intro v' w2 ho2 hg2
      have hb2 : Below w.heap.size w w2 := (hb.alloc (by omega) _).appended (ho.alloc _) hg2 (Nat.le_refl _) (by simp; omega)
      clear hg2
      go_wp2_with fail
      go_roundw
      case rel => exact ⟨j + 1, by omega, by go_num, by rw [hds.out], by rw [hbs.out]; simpa [intVals] using ho2, hb2⟩
      case measure => simp [intOf]; omega
    · obtain rfl : j = k := by omega
      have hp : (0 : Int) < 256 ^ j := Int.pow_pos (by decide)
      by_cases hf : fitsI j n = true
      · have hq : n / 256 ^ j = 0 := by
          simp only [fitsI, decide_eq_true_eq] at hf
          exact Int.ediv_eq_zero_of_lt hn hf
        rw [hq]
        clear hq n0 n1
        go_wp2_with fail
        go_ret2
        exact .inl ⟨hf, _, rfl, ho, hb⟩
      · have hf' : fitsI j n = false := by simpa using hf
        have hq : 0 < n / 256 ^ j := by
          simp only [fitsI, decide_eq_true_eq, Int.not_lt] at hf
          have := Int.le_ediv_of_mul_le hp (show 1 * 256 ^ j ≤ n by omega)
          omega
        generalize n / 256 ^ j = q at *
        go_wp2_with fail
        go_ret2
        exact .inr ⟨hf', rfl, hb⟩
end Go.Proofs.Ytackenlfnecanaa
