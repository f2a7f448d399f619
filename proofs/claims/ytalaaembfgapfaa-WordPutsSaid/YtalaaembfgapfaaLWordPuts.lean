/-
  'WordPuts' returns true for every input, and leaves what it is given as it was. No condition.
-/
import Derived.Test.YtalaaembfgapfaaFrame
import Derived.Test.YtalaaembfgapfaaWordG
namespace Go.Proofs.Ytalaaembfgapfaa.wordPuts
open Go.ChangeShapes Go.WideShapes Go.ChangeAt Go.RowKit Go.Proofs.Ytalaaembfgapfaa
set_option linter.unusedVariables false
set_option maxHeartbeats 400000

theorem nil_string (w : World) : (convert 23 9 (.slice none 0 0)).run Try.prog w = .ok (.string (strOfNums [])) w :=
  run_convert_row (P := Try.prog) [] (RowAt.nil 0 w) Try.underlying23 Try.underlying5 Try.underlying9
theorem arg (n W : Int) (h : isW W = false) (w : World) : Calls Try.prog 3 #[.int .u64 n, .int .i64 W] w fun e w' => e = .returned (.bool true) ∧ Below w.heap.size w w' := by
  go_enter Try.func3, Try.ntmps3
  go_wp2_with fail
  refine (Put_arg _ _ h _).mono ?_; rintro e w1 ⟨rfl, h1⟩
  go_wp2_with fail
  refine (rPut_arg _ _ h _).mono ?_; rintro e w2 ⟨rfl, h2⟩
  have hs := nil_string w2
  go_wp2_with fail
  refine (num_calls _ _).mono ?_; rintro e w' ⟨rfl, rfl⟩
  go_wp2_with fail
  refine (works_ok _).mono ?_; rintro e w3 ⟨rfl, h3⟩
  go_wp2_with fail
  go_ret
  have z1 := h1.size; have z2 := h2.size
  exact ⟨rfl, (h1.trans (h2.mono (by omega))).trans (h3.mono (by omega))⟩
theorem range (n : Int) (k : Nat) (hn : 0 ≤ n) (hn' : n < 18446744073709551616) (h : isW k = true) (hf : fitsI k n = false) (w : World) : Calls Try.prog 3 #[.int .u64 n, .int .i64 k] w fun e w' => e = .returned (.bool true) ∧ Below w.heap.size w w' := by
  go_enter Try.func3, Try.ntmps3
  go_wp2_with fail
  refine (Put_range _ _ hn hn' h hf _).mono ?_; rintro e w1 ⟨rfl, h1⟩
  go_wp2_with fail
  refine (rPut_loop _ _ hn hn' h _).mono ?_
  rintro e w2 (⟨hf', _⟩ | ⟨_, rfl, h2⟩)
  · rw [hf] at hf'; cases hf'
  have hs := nil_string w2
  go_wp2_with fail
  refine (num_calls _ _).mono ?_; rintro e w' ⟨rfl, rfl⟩
  go_wp2_with fail
  refine (works_ok _).mono ?_; rintro e w3 ⟨rfl, h3⟩
  go_wp2_with fail
  go_ret
  have z1 := h1.size; have z2 := h2.size
  exact ⟨rfl, (h1.trans (h2.mono (by omega))).trans (h3.mono (by omega))⟩
theorem fit (n : Int) (k : Nat) (hn : 0 ≤ n) (hn' : n < 18446744073709551616) (h : isW k = true) (hf : fitsI k n = true) (w : World) : Calls Try.prog 3 #[.int .u64 n, .int .i64 k] w fun e w' => e = .returned (.bool true) ∧ Below w.heap.size w w' := by
  have hval : valI (bytesI n k) = n := valI_bytes k n hn (by simpa [fitsI] using hf)
  have hk := isW_cases h
  go_enter Try.func3, Try.ntmps3
  go_wp2_with fail
  refine (Put_ok _ _ hn hn' h hf _).mono ?_; rintro e w1 ⟨v1, rfl, ho1, h1⟩
  have z1 := h1.size
  have hr1 : RowAt w1.heap.size w1 v1 (bytesI n k).length (intVals .u8 (bytesI n k)) := by rw [bytesI_len]; exact RowAt.of_owns ho1 (Nat.le_refl _)
  go_wp2_with fail
  refine (rPut_loop _ _ hn hn' h _).mono ?_
  rintro e w2 (⟨_, v2, rfl, ho2, h2⟩ | ⟨hf', _⟩)
  rotate_left
  · rw [hf] at hf'; cases hf'
  have z2 := h2.size
  have hr2 : RowAt w2.heap.size w2 v2 (bytesI n k).length (intVals .u8 (bytesI n k)) := by rw [bytesI_len]; exact RowAt.of_owns ho2 (Nat.le_refl _)
  have hr1' := hr1.below h2 (Nat.le_refl _)
  have g1 := run_convert_row (P := Try.prog) _ hr1' Try.underlying23 Try.underlying5 Try.underlying9
  have g2 := run_convert_row (P := Try.prog) _ hr2 Try.underlying23 Try.underlying5 Try.underlying9
  go_wp2_with fail
  refine (num_calls _ _).mono ?_; rintro e w' ⟨rfl, rfl⟩
  go_wp2_with fail
  refine (Get_ok _ _ (bytesI_bd n k) _ _ z2 (by rw [bytesI_len]; exact h) hr1').mono ?_; rintro e w3 ⟨rfl, h3⟩
  rw [hval]
  have z3 := h3.size
  go_wp2_with fail
  refine (num_calls _ _).mono ?_; rintro e w' ⟨rfl, rfl⟩
  go_wp2_with fail
  refine (works_ok _).mono ?_; rintro e w4 ⟨rfl, h4⟩
  go_wp2_with fail
  go_ret
  exact ⟨rfl, ((h1.trans (h2.mono (by omega))).trans (h3.mono (by omega))).trans (h4.mono (by omega))⟩

theorem body (n W : Int) (hn : 0 ≤ n) (hn' : n < 18446744073709551616) (w : World) : Calls Try.prog 3 #[.int .u64 n, .int .i64 W] w fun e w' => e = .returned (.bool true) ∧ Below w.heap.size w w' := by
  by_cases h : isW W = true
  · obtain ⟨k, rfl⟩ : ∃ k : Nat, W = k := by have := isW_cases h; exact ⟨W.toNat, by omega⟩
    by_cases hf : fitsI k n = true
    · exact fit n k hn hn' h hf w
    · exact range n k hn hn' h (by simpa using hf) w
  · exact arg n W (by simpa using h) w

theorem walk (H : Type) (enc : TypeId × Value → H) (W : World) (base : Nat) (args : Array Value) (ds : List (DataW H)) (p : List MemPlace)
    (hval : ∀ (j : Nat) t v, Try.f3.params[j]? = some t → args[j]? = some v → Value.okWide Try.prog W .any base t v)
    (hA : DataW.TrodAll enc Try.prog W 0 (fun _ => true) true Try.f3.params.toList args.toList ds p) (hlt : ∀ x ∈ p, x.block < W.heap.size) :
    Calls Try.prog 3 args W (fun e W' => e = .returned (.bool true) ∧ Below W.heap.size W W') ∧ ∃ d0 d1, ds = [d0, d1] := by
  rw [Try.params3] at hA hval
  obtain ⟨v0, vs0, d0, ds0, p0, q0, hargs, rfl, rfl, h0, r0⟩ := trodAll_cons hA
  obtain ⟨v1, vs1, d1, ds1, p1, q1, rfl, rfl, rfl, h1, r1⟩ := trodAll_cons r0
  obtain ⟨rfl, rfl, rfl⟩ := trodAll_nil r1
  obtain rfl : args = #[v0, v1] := by cases args; simp_all
  obtain ⟨a0, rfl, rfl, rfl, w0⟩ := open_int Try.underlying22 (hval 0 22 v0 rfl rfl) h0
  obtain ⟨a1, rfl, rfl, rfl, w1⟩ := open_int Try.underlying3 (hval 1 3 v1 rfl rfl) h1
  have b0 := u64_bd w0
  exact ⟨body a0 a1 b0.1 b0.2 W, _, _, rfl⟩

theorem own : ownKnob Try.prog.godebug = none := by kernel_rfl
set_option maxRecDepth 100000 in
theorem lifted (os : Os) (started : os.Started) (H : Type) (enc : TypeId × Value → H) :
    ReturnsInHanded {} Try.checked os 3 .any (Rows.wordPutsSpec.pre6 enc Try.prog Try.f3 Rows.wordPutsRow.domain false) (Rows.wordPutsSpec.post enc Try.prog Try.f3 false true false false) := by
  refine returnsInHanded_of_change (C := Try.checked) own started (by kernel_rfl) Try.func3
    (ChangeSpec.witness6 (enc := enc) (C := Try.checked) false ⟨#[], #[.int .u64 0, .int .i64 0], []⟩ 8 (by kernel_rfl) (by kernel_rfl) (by kernel_rfl) (by kernel_rfl)) ?_
  intro W base args ds gs before hval hW hcnd _
  have hW' := hW
  obtain ⟨p, q, hA, hV, rfl, hfz, hnd⟩ := hW
  obtain ⟨rfl, rfl⟩ := trodVars_none hV
  have hlt : ∀ x ∈ p, x.block < W.heap.size := fun x hx => hW'.lt x (List.mem_append_left _ hx)
  obtain ⟨hc, d0, d1, rfl⟩ := walk H enc W base args ds p hval hA hlt
  refine hc.mono fun e W' ⟨he, hb⟩ => ?_
  subst he
  exact ⟨_, rfl, law_post (by kernel_rfl) (by kernel_rfl) rfl (by kernel_rfl) rfl rfl rfl rfl hW' hA hlt hb⟩

theorem over : Rows.wordPutsRow.holds Try.pinned (OpenSpec.ofChange Rows.wordPutsSpec) :=
  OpenClaim.holds_of_wide 3 Try.f3 rfl rfl rfl rfl rfl rfl rfl ⟨rfl, rfl, rfl, rfl, rfl⟩ rfl rfl rfl rfl rfl (by kernel_rfl) Try.func3 (by kernel_rfl)
    (of_decide_eq_true (by kernel_rfl)) (by unfold Func.isWrapper; first | (rw [if_pos (by decide +kernel)]; kernel_rfl) | (rw [if_neg (by decide +kernel)]; exact ⟨rfl, rfl⟩))
    (fun os started H enc _ => lifted os started H enc)

theorem proved : Rows.WordPutsSaid :=
  over

end Go.Proofs.Ytalaaembfgapfaa.wordPuts
