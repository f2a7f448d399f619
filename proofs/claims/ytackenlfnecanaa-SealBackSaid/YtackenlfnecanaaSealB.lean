/-
  Package seal: what seals a word, and what comes of a tag that may be; the reference's. Conditions: the bounds of the kinds.
-/
import Derived.Test.YtackenlfnecanaaSealA
import Derived.ChangeKeysEq
namespace Go.Proofs.Ytackenlfnecanaa
open Go.RowKit
attribute [local go_sem] Oper.semAt_some
set_option maxHeartbeats 400000
set_option maxRecDepth 4000

def sealB (b n : Int) : List Int := bytesI (mixI b n) 8 ++ bytesI (mixI b (18446744073709551615 - n)) 8
def sealK (b n : Int) : Nat → List Int
  | 0 => []
  | 1 => bytesI (mixI b n) 8
  | _ => sealB b n
theorem fits8 (n : Int) (h : n < 18446744073709551616) : fitsI 8 n = true := by simp [fitsI]; exact h
theorem sealB_len (b n : Int) : (sealB b n).length = 16 := by simp [sealB, bytesI_len]
/-- a[i] of an array by value, its elements of one cell. -/
theorem run_index_plain {P : Program} {t e : TypeId} {n : Nat} {i : TypeInfo} (h : P.underlying t = some (.array n e)) (hi : P.info? e = some i) (hc : P.cellsOf e = 1) (he : P.plainKey e = true) {cs : Array Value} {k : IntKind} {j : Nat} {v : Value} (hj : j < n) (hx : cs[j]? = some v) (w : World) :
    (Instr.index t (.agg cs) (.int k (j : Int))).run P w = .ok v w := by
  have h0 : 0 ≤ (j : Int) ∧ (j : Int) < n := by omega
  simp [Instr.index, asIntOf, run_underlying h, h0, run_sizeOf w hi, hc, run_part_plain w he hx, hj]
theorem index2 (a b : Value) (w : World) : (Instr.index 73 (.agg #[a, b]) (.int .i64 0)).run Try.prog w = .ok a w ∧ (Instr.index 73 (.agg #[a, b]) (.int .i64 1)).run Try.prog w = .ok b w := by
  obtain ⟨i, hi⟩ : ∃ i, Try.prog.info? 22 = some i := Option.isSome_iff_exists.1 (by kernel_rfl)
  exact ⟨run_index_plain (j := 0) Try.underlying73 hi (by kernel_rfl) (by kernel_rfl) (by omega) rfl w, run_index_plain (j := 1) Try.underlying73 hi (by kernel_rfl) (by kernel_rfl) (by omega) rfl w⟩
theorem sealer1_calls (b c s n : Int) (p : Nat) (hr : rightI c s = true) (hn : 0 ≤ n) (hn' : n < 4294967296) (w : World) (hp : w.cell? ⟨p, 0, none⟩ = some (.int .u64 b)) :
    Calls Try.prog 33 #[.agg #[.int .i64 c, .int .i64 s, .int .u32 n], .pointer (some ⟨p, 0, none⟩)] w fun e w' =>
      ∃ v, e = .returned v ∧ w'.ownsRow w.heap.size 5 1 v 16 (intVals .u8 (sealB b (wordI c s n))) ∧ Below w.heap.size w w' := by
  have hpl : p < w.heap.size := World.block_lt_of_cell? w _ hp
  go_enter Try.func33, Try.ntmps33
  go_wp2_with fail
  refine (words_calls c s n hr hn hn' _).mono ?_; rintro e w1 ⟨rfl, h1⟩
  have hb1 : Below w.heap.size w w1 := ((Below.refl _ w).alloc (Nat.le_refl _) _).trans (h1.mono (by simp))
  have z1 := hb1.size
  clear h1
  go_wp2_with fail
  go_loopw [4, 11] (fun v i wr => ∃ k : Nat, k ≤ 2 ∧ i = .int .i64 k ∧ wr.ownsRow w.heap.size 5 1 v (8 * k) (intVals .u8 (sealK b (wordI c s n) k)) ∧ Below w.heap.size w wr) (fun _ i _ => 2 - (intOf i).toNat)
  case atStart => exact ⟨0, by omega, rfl, World.ownsRow_nil _ _ _ _, hb1⟩
  case round =>
    obtain ⟨k, hk, rfl, ho, hb⟩ := hrel
    have z := hb.size
    have hpr : wr.cell? ⟨p, 0, none⟩ = some (.int .u64 b) := (hb.cell (p := ⟨p, 0, none⟩) hpl).trans hp
    have hcase : k = 0 ∨ k = 1 ∨ k = 2 := by omega
    rcases hcase with rfl | rfl | rfl
    · have ix := index2 (.int .u64 (wordI c s n)) (.int .u64 (18446744073709551615 - wordI c s n)) wr
      obtain ⟨ix0, ix1⟩ := ix
      go_wp2_with fail
      refine (Mix_ok _ _ _).mono ?_; rintro e w2 ⟨rfl, h2⟩
      have z2 := h2.size
      go_wp2_with fail
      refine (Put_ok (mixI b (wordI c s n)) 8 (mix_bd _ _).1 (mix_bd _ _).2 rfl (fits8 _ (mix_bd _ _).2) _).mono ?_; rintro e w3 ⟨u, rfl, ho3, h3⟩
      have z3 := h3.size
      have hb3 := hb.trans ((h2.mono z).trans (h3.mono (by omega)))
      have hod := owns_below (owns_below ho h2 (Nat.le_refl _)) h3 (Nat.le_refl _)
      go_wp2_with (at_builtin; refine wpList_append_row rfl _ _ 28 rfl w.heap.size Try.underlying28 info8 (8 * 0) (intVals .u8 (sealK b (wordI c s n) 0)) rfl ?c1 w3.heap.size 8 (intVals .u8 (bytesI (mixI b (wordI c s n)) 8)) rfl ?c2 ?c3 ?c4 ?c5 ?c6 ?c7 ?_)
      case c1 => exact hod
      case c2 => exact RowAt.of_owns ho3 (Nat.le_refl _)
      case c3 => rw [intVals_len, bytesI_len]
      case c4 => exact intVals_one _ _
      case c5 => unfold maxLen; omega
      case c6 => omega
      case c7 => omega
      intro v' w4 ho4 hg4
      have hb4 : Below w.heap.size w w4 := hb3.appended hod hg4 (Nat.le_refl _) (by omega)
      clear hg4
      go_wp2_with fail
      go_roundw
      case rel => exact ⟨1, by omega, by go_num, ho4, hb4⟩
      case measure => simp [intOf]
    · have ix := index2 (.int .u64 (wordI c s n)) (.int .u64 (18446744073709551615 - wordI c s n)) wr
      obtain ⟨ix0, ix1⟩ := ix
      go_wp2_with fail
      refine (Mix_ok _ _ _).mono ?_; rintro e w2 ⟨rfl, h2⟩
      have z2 := h2.size
      go_wp2_with fail
      refine (Put_ok (mixI b (18446744073709551615 - wordI c s n)) 8 (mix_bd _ _).1 (mix_bd _ _).2 rfl (fits8 _ (mix_bd _ _).2) _).mono ?_; rintro e w3 ⟨u, rfl, ho3, h3⟩
      have z3 := h3.size
      have hb3 := hb.trans ((h2.mono z).trans (h3.mono (by omega)))
      have hod := owns_below (owns_below ho h2 (Nat.le_refl _)) h3 (Nat.le_refl _)
      go_wp2_with (at_builtin; refine wpList_append_row rfl _ _ 28 rfl w.heap.size Try.underlying28 info8 (8 * 1) (intVals .u8 (sealK b (wordI c s n) 1)) rfl ?c1 w3.heap.size 8 (intVals .u8 (bytesI (mixI b (18446744073709551615 - wordI c s n)) 8)) rfl ?c2 ?c3 ?c4 ?c5 ?c6 ?c7 ?_)
      case c1 => exact hod
      case c2 => exact RowAt.of_owns ho3 (Nat.le_refl _)
      case c3 => rw [intVals_len, bytesI_len]
      case c4 => exact intVals_one _ _
      case c5 => unfold maxLen; omega
      case c6 => omega
      case c7 => omega
      intro v' w4 ho4 hg4
      have hb4 : Below w.heap.size w w4 := hb3.appended hod hg4 (Nat.le_refl _) (by omega)
      clear hg4
      go_wp2_with fail
      go_roundw
      case rel => exact ⟨2, by omega, by go_num, by simpa [sealK, sealB, intVals] using ho4, hb4⟩
      case measure => simp [intOf]
    · go_wp2_with fail
      go_ret
      exact ⟨_, rfl, ho, hb⟩
theorem sealer_calls (v : Value) (l : List Int) (B : Nat) (w : World) (hB : B ≤ w.heap.size) (hl : l.length ≤ 140737488355328) (hv : RowAt B w v l.length (intVals .u64 l)) :
    Calls Try.prog 20 #[v] w fun e w' => ∃ p : Nat, e = .returned (.func (.func 33) #[] #[.pointer (some ⟨p, 0, none⟩)]) ∧ w'.cell? ⟨p, 0, none⟩ = some (.int .u64 (foldI l)) ∧ Below w.heap.size w w' := by
  go_enter Try.func20, Try.ntmps20
  go_wp2_with fail
  refine (Fold_ok v l B _ hB hl hv).mono ?_; rintro e w1 ⟨rfl, h1⟩
  have z1 := h1.size
  go_wp2_with fail
  go_ret
  exact ⟨w1.heap.size, rfl, (Blk.new w1 _ _).cell 0 rfl, h1.alloc z1 _⟩
theorem made_no (c s n e0 : Int) (he : e0 ≠ 0) (f : Value) (w : World) : Calls Try.prog 19 #[.agg #[.int .i64 c, .int .i64 s, .int .u32 n], .int .i64 e0, f] w fun e w' => e = .returned (.tuple #[.slice none 0 0, .int .i64 e0]) ∧ Below w.heap.size w w' := by
  go_enter Try.func19, Try.ntmps19
  go_wp2_with fail
  refine wp_scope_fwd 0 rfl ?_
  go_wp2_with (first | go_step3 | rw [fwd_goto] | rw [fwd_ret] | rw [Exit.noGoto_ret])
  go_ret2
  exact ⟨rfl, (Below.refl _ w).alloc (Nat.le_refl _) _⟩
theorem made_yes (b c s n : Int) (p : Nat) (hr : rightI c s = true) (hn : 0 ≤ n) (hn' : n < 4294967296) (w : World) (hp : w.cell? ⟨p, 0, none⟩ = some (.int .u64 b)) :
    Calls Try.prog 19 #[.agg #[.int .i64 c, .int .i64 s, .int .u32 n], .int .i64 0, .func (.func 33) #[] #[.pointer (some ⟨p, 0, none⟩)]] w fun e w' =>
      ∃ v, e = .returned (.tuple #[v, .int .i64 0]) ∧ w'.ownsRow w.heap.size 5 1 v 16 (intVals .u8 (sealB b (wordI c s n))) ∧ Below w.heap.size w w' := by
  go_enter Try.func19, Try.ntmps19
  go_wp2_with fail
  refine wp_scope_fwd 0 rfl ?_
  go_wp2_with (first | go_step3 | rw [fwd_goto] | rw [fwd_ret] | rw [Exit.noGoto_ret])
  refine (sealer1_calls b c s n p hr hn hn' _ (((Below.refl _ w).alloc (Nat.le_refl _) _).cell (p := ⟨p, 0, none⟩) (World.block_lt_of_cell? w _ hp) |>.trans hp)).mono ?_; rintro e w1 ⟨v, rfl, ho, h1⟩
  go_wp2_with (first | go_step3 | rw [fwd_goto] | rw [fwd_ret] | rw [Exit.noGoto_ret])
  go_ret2
  exact ⟨v, rfl, owns_weaken ho (by simp), ((Below.refl _ w).alloc (Nat.le_refl _) _).trans (h1.mono (by simp))⟩
theorem both_calls (b n : Int) (hb0 : 0 ≤ b) (hb1 : b < 18446744073709551616) (hn : 0 ≤ n) (hn' : n < 18446744073709551616) (w : World) : Calls Try.prog 22 #[.int .u64 b, .int .u64 n] w fun e w' =>
    ∃ v, e = .returned v ∧ w'.ownsRow w.heap.size 5 1 v 16 (intVals .u8 (sealB b n)) ∧ Below w.heap.size w w' := by
  go_enter Try.func22, Try.ntmps22
  go_wp2_with fail
  refine (rMix_ok _ _ hb0 hb1 hn hn' _).mono ?_; rintro e w1 ⟨rfl, rfl⟩
  go_wp2_with fail
  refine (rPut_loop (mixI b n) 8 (mix_bd _ _).1 (mix_bd _ _).2 rfl _).mono ?_; rintro e w2 (⟨_, u, rfl, ho2, h2⟩ | ⟨hf, rfl, _⟩)
  rotate_left
  · rw [fits8 _ (mix_bd _ _).2] at hf; cases hf
  have z2 := h2.size
  go_wp2_with fail
  refine (rMix_ok _ _ hb0 hb1 (by omega) (by omega) _).mono ?_; rintro e w3 ⟨rfl, rfl⟩
  go_wp2_with fail
  refine (rPut_loop (mixI b (18446744073709551615 - n)) 8 (mix_bd _ _).1 (mix_bd _ _).2 rfl _).mono ?_; rintro e w4 (⟨_, u4, rfl, ho4, h4⟩ | ⟨hf, rfl, _⟩)
  rotate_left
  · rw [fits8 _ (mix_bd _ _).2] at hf; cases hf
  have z4 := h4.size
  have hb4 := h2.trans (h4.mono z2)
  have hod : w4.ownsRow w.heap.size 5 1 u 8 (intVals .u8 (bytesI (mixI b n) 8)) := owns_below ho2 h4 (Nat.le_refl _)
  go_wp2_with (at_builtin; refine wpList_append_row rfl _ _ 28 rfl w.heap.size Try.underlying28 info8 8 (intVals .u8 (bytesI (mixI b n) 8)) rfl ?c1 w4.heap.size 8 (intVals .u8 (bytesI (mixI b (18446744073709551615 - n)) 8)) rfl ?c2 ?c3 ?c4 ?c5 ?c6 ?c7 ?_)
  case c1 => exact hod
  case c2 => exact RowAt.of_owns ho4 (Nat.le_refl _)
  case c3 => rw [intVals_len, bytesI_len]
  case c4 => exact intVals_one _ _
  case c5 => unfold maxLen; omega
  case c6 => omega
  case c7 => omega
  intro v' w5 ho5 hg5
  have hb5 : Below w.heap.size w w5 := hb4.appended hod hg5 (Nat.le_refl _) (by omega)
  clear hg5
  go_wp2_with fail
  go_ret
  exact ⟨v', rfl, by simpa [sealB, intVals] using ho5, hb5⟩
end Go.Proofs.Ytackenlfnecanaa
