/-
  The contracts of package mix and of its reference, in the words mixI, undoI, stirI, roundI; the law package's own helpers. Conditions: the bounds of the kinds.
-/
import Derived.Test.YtackenlfnecanaaMixP
namespace Go.Proofs.Ytackenlfnecanaa
open Go.RowKit
set_option maxHeartbeats 400000

theorem Mix_ok (key n : Int) (w : World) : Calls Try.prog 36 #[.int .u64 key, .int .u64 n] w fun e w' => e = .returned (.int .u64 (mixI key n)) ∧ Below w.heap.size w w' := Mix_calls key n w
theorem Undo_ok (key n : Int) (w : World) : Calls Try.prog 26 #[.int .u64 key, .int .u64 n] w fun e w' => e = .returned (.int .u64 (undoI key n)) ∧ Below w.heap.size w w' := Undo_calls key n w
theorem rMix_ok (key n : Int) (hk : 0 ≤ key) (hk' : key < 18446744073709551616) (hn : 0 ≤ n) (hn' : n < 18446744073709551616) (w : World) : Calls Try.prog 38 #[.int .u64 key, .int .u64 n] w fun e w' =>
    e = .returned (.int .u64 (mixI key n)) ∧ w = w' := by
  refine (rMix_calls key n hk hk' hn hn' w).mono ?_
  rintro e w' ⟨rfl, hw⟩
  rw [rmixed_eq key n hk hk' hn hn']
  exact ⟨rfl, hw⟩
theorem rRound_ok (k n : Int) (hk : 0 ≤ k) (hk' : k < 18446744073709551616) (h0 : 0 ≤ n) (h1 : n ≤ 7) (w : World) : Calls Try.prog 49 #[.int .u64 k, .int .i64 n] w fun e w' => e = .returned (.int .u64 (roundI k n)) ∧ w = w' := by
  rw [← rround_eq k n hk hk' h0 h1]; exact rRound_calls k n hk hk' h0 h1 w
theorem rstir_ok (a b : Int) (ha : 0 ≤ a) (ha' : a < 4294967296) (hb : 0 ≤ b) (hb' : b < 4294967296) (w : World) : Calls Try.prog 48 #[.int .u64 a, .int .u64 b] w fun e w' => e = .returned (.int .u64 (stirI a b)) ∧ w = w' := by
  rw [← rstir_eq a b ha ha' hb hb']; exact rstir_calls a b ha ha' hb hb' w
def rundoneI (key n : Int) (k : Nat) : Int × Int := undoneI key n ((numsI key true).take k)
theorem rundone_succ (key n : Int) (k : Nat) (h : k < 8) : rundoneI key n (k + 1) = backI (rundoneI key n k) (roundI key (7 - (k : Int))) := by
  have hl : k < (numsI key true).length := by rw [numsI_len]; exact h
  unfold rundoneI
  rw [take_next _ _ hl, undoneI_snoc, numsI_get]
  simp
theorem rUndo_ok (key n : Int) (hk : 0 ≤ key) (hk' : key < 18446744073709551616) (hn : 0 ≤ n) (hn' : n < 18446744073709551616) (w : World) : Calls Try.prog 30 #[.int .u64 key, .int .u64 n] w fun e w' =>
    e = .returned (.int .u64 (undoI key n)) ∧ w = w' := by
  have hm := mask_eq n hn hn'
  go_enter Try.func30, Try.ntmps30
  go_wp2_with fail
  go_loop [5, 6, 7] (fun a b i => ∃ k : Nat, k ≤ 8 ∧ i = .int .i64 (7 - (k : Int)) ∧ a = .int .u64 (rundoneI key n k).1 ∧ b = .int .u64 (rundoneI key n k).2) (fun _ _ i => (intOf i + 1).toNat)
  case atStart =>
    refine ⟨0, by omega, rfl, ?_, ?_⟩
    · show Value.int .u64 (n / 4294967296) = .int .u64 (n / 4294967296 % 4294967296); rw [Int.emod_eq_of_lt (a := n / 4294967296) (by omega) (by omega)]
    · first | rfl | (rw [hm]; rfl)
  case round =>
    obtain ⟨k, hkk, rfl, rfl, rfl⟩ := hrel
    obtain ⟨b1, b2, b3, b4⟩ : Half (rundoneI key n k) := undone_bd key n ((numsI key true).take k)
    by_cases hlt : k < 8
    · have hs := Lib.hid (rundone_succ key n k hlt)
      have rb := round_bd key (7 - (k : Int))
      have sb := stir_bd (rundoneI key n k).1 (roundI key (7 - (k : Int)))
      have hx := Lib.hid (xor_eq _ _ b3 b4 sb.1 sb.2)
      clear hm
      go_wp2_with fail
      refine (rRound_ok _ _ hk hk' (by omega) (by omega) _).mono ?_; rintro e w' ⟨rfl, rfl⟩
      go_wp2_with fail
      refine (rstir_ok _ _ b1 b2 rb.1 rb.2 _).mono ?_; rintro e w' ⟨rfl, rfl⟩
      go_wp2_with fail
      go_round
      case rel => exact ⟨k + 1, by omega, by go_num, by rw [hs.out]; exact congrArg (Value.int .u64) hx.out, by rw [hs.out]; rfl⟩
      case measure => simp [intOf]; omega
    · obtain rfl : k = 8 := by omega
      clear hm
      go_wp2_with fail
      go_ret
      refine ⟨?_, rfl⟩
      unfold undoI
      rw [show rundoneI key n 8 = undoneI key n (numsI key true) from by unfold rundoneI; rw [List.take_of_length_le (by rw [numsI_len]; omega)]]
      rfl

/-! ### Fold -/
def foldI (l : List Int) : Int := l.foldl (fun a x => bits BinOp.xor IntKind.u64 (mixI x a) x) 0
theorem xor_bd (a b : Int) : 0 ≤ bits BinOp.xor .u64 a b ∧ bits BinOp.xor .u64 a b < 18446744073709551616 := ⟨bits_lo_u64 _ a b, by have := bits_hi_u64 BinOp.xor a b; omega⟩
theorem foldI_snoc (l : List Int) (x : Int) : foldI (l ++ [x]) = bits BinOp.xor IntKind.u64 (mixI x (foldI l)) x := by simp [foldI]
theorem fold_bd (l : List Int) : 0 ≤ foldI l ∧ foldI l < 18446744073709551616 := by
  rcases List.eq_nil_or_concat l with rfl | ⟨m, x, rfl⟩
  · exact ⟨by decide, by decide⟩
  · rw [List.concat_eq_append, foldI_snoc]; exact xor_bd _ _
theorem Fold1_ok (a x : Int) (w : World) : Calls Try.prog 46 #[.int .u64 a, .int .u64 x] w fun e w' => e = .returned (.int .u64 (bits BinOp.xor IntKind.u64 (mixI x a) x)) ∧ Below w.heap.size w w' := by
  go_enter Try.func46, Try.ntmps46
  go_wp2_with fail
  refine (Mix_ok _ _ _).mono ?_; rintro e w' ⟨rfl, hb⟩
  go_wp2_with fail
  go_ret
  exact ⟨rfl, hb⟩
theorem folded_ok (v : Value) (l : List Int) (from_ : Int) (B : Nat) (w : World) (hB : B ≤ w.heap.size) (hl : l.length ≤ 140737488355328) (hv : RowAt B w v l.length (intVals .u64 l)) :
    Calls Try.prog 45 #[.int .u64 from_, .func (.func 46) #[] #[], v] w fun e w' =>
      e = .returned (.int .u64 (l.foldl (fun a x => bits BinOp.xor IntKind.u64 (mixI x a) x) from_)) ∧ Below w.heap.size w w' := by
  obtain ⟨ad, cap, rfl, hcap, hrow⟩ := hv
  go_enter Try.func45, Try.ntmps45
  go_wp2_with fail
  go_loopw [0, 11] (fun a i wr => ∃ k : Nat, k ≤ l.length ∧ i = .int .i64 k ∧ a = .int .u64 ((l.take k).foldl (fun a x => bits BinOp.xor IntKind.u64 (mixI x a) x) from_) ∧ Below w.heap.size w wr) (fun _ i _ => l.length - (intOf i).toNat)
  case atStart => exact ⟨0, by omega, rfl, rfl, Below.refl _ _⟩
  case round =>
    obtain ⟨k, hk, rfl, rfl, hb⟩ := hrel
    have hz := hb.size
    by_cases hlt : k < l.length
    · have htk := Lib.hid (take_next l k hlt)
      rcases hrow with h0 | ⟨b, off, rfl, hbB, hc⟩
      · exfalso; have := congrArg List.length h0; simp [intVals] at this; subst this; simp at hlt
      have hck : wr.cell? ⟨b, off + k, none⟩ = some (.int .u64 l[k]) := by
        rw [hb.cell (p := ⟨b, off + k, none⟩) (by dsimp only; omega), hc k (by simpa [intVals] using hlt), intVals_get _ _ _ hlt]
      clear hc
      go_wp2_with fail
      refine (Fold1_ok _ _ _).mono ?_; rintro e w1 ⟨rfl, hb1⟩
      go_wp2_with fail
      go_roundw
      case rel => exact ⟨k + 1, by omega, by go_num, by rw [htk.out, List.foldl_append]; rfl, hb.trans (hb1.mono hz)⟩
      case measure => simp [intOf]; omega
    · obtain rfl : k = l.length := by omega
      go_wp2_with fail
      go_ret
      exact ⟨by rw [List.take_of_length_le (Nat.le_refl _)]; rfl, hb⟩
theorem Fold_ok (v : Value) (l : List Int) (B : Nat) (w : World) (hB : B ≤ w.heap.size) (hl : l.length ≤ 140737488355328) (hv : RowAt B w v l.length (intVals .u64 l)) :
    Calls Try.prog 27 #[v] w fun e w' => e = .returned (.int .u64 (foldI l)) ∧ Below w.heap.size w w' := by
  go_enter Try.func27, Try.ntmps27
  go_wp2_with fail
  refine (folded_ok v l 0 B _ hB hl hv).mono ?_; rintro e w' ⟨rfl, hb⟩
  go_wp2_with fail
  go_ret
  exact ⟨rfl, hb⟩
theorem rFold_ok (v : Value) (l : List Int) (hlw : ∀ x ∈ l, 0 ≤ x ∧ x < 18446744073709551616) (B : Nat) (w : World) (hB : B ≤ w.heap.size) (hl : l.length ≤ 140737488355328) (hv : RowAt B w v l.length (intVals .u64 l)) :
    Calls Try.prog 23 #[v] w fun e w' => e = .returned (.int .u64 (foldI l)) ∧ Below w.heap.size w w' := by
  obtain ⟨ad, cap, rfl, hcap, hrow⟩ := hv
  go_enter Try.func23, Try.ntmps23
  go_wp2_with fail
  go_loopw [3, 4] (fun a i wr => ∃ k : Nat, k ≤ l.length ∧ i = .int .i64 k ∧ a = .int .u64 (foldI (l.take k)) ∧ Below w.heap.size w wr) (fun _ i _ => l.length - (intOf i).toNat)
  case atStart => exact ⟨0, by omega, rfl, rfl, Below.refl _ _⟩
  case round =>
    obtain ⟨k, hk, rfl, rfl, hb⟩ := hrel
    have hz := hb.size
    by_cases hlt : k < l.length
    · have htk := Lib.hid (take_next l k hlt)
      rcases hrow with h0 | ⟨b, off, rfl, hbB, hc⟩
      · exfalso; have := congrArg List.length h0; simp [intVals] at this; subst this; simp at hlt
      have hck : wr.cell? ⟨b, off + k, none⟩ = some (.int .u64 l[k]) := by
        rw [hb.cell (p := ⟨b, off + k, none⟩) (by dsimp only; omega), hc k (by simpa [intVals] using hlt), intVals_get _ _ _ hlt]
      clear hc
      have hx := hlw l[k] (List.getElem_mem hlt)
      have ha := fold_bd (l.take k)
      have i1 : (0 : Int) ≤ k := by omega
      have i2 : (k : Int) < l.length := by omega
      go_wp2_with fail
      go_quiet ((go_at_call 38; exact quiet_same (rMix_ok _ _ hx.1 hx.2 ha.1 ha.2 _)))
      go_wp2_with fail
      go_roundw
      case rel => exact ⟨k + 1, by omega, by go_num, by rw [htk.out, foldI_snoc], by exact hb.drewN _⟩
      case measure => simp [intOf]; omega
    · obtain rfl : k = l.length := by omega
      go_wp2_with fail
      go_ret
      exact ⟨by rw [List.take_of_length_le (Nat.le_refl _)]; rfl, hb⟩

end Go.Proofs.Ytackenlfnecanaa
