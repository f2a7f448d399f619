/-
  'WordZeros' returns true for every input, and leaves what it is given as it was. No condition.
-/
import Derived.Test.YtalaaembfgapfaaFrame
import Derived.Test.YtalaaembfgapfaaWordG
namespace Go.Proofs.Ytalaaembfgapfaa.wordZeros
open Go.ChangeShapes Go.WideShapes Go.ChangeAt Go.RowKit Go.Proofs.Ytalaaembfgapfaa
set_option linter.unusedVariables false
set_option maxHeartbeats 400000

theorem small (v : Value) (l : List Int) (w : World) (hl : l.length ≤ 10000) (hv : RowAt w.heap.size w v l.length (intVals .u8 l)) :
    Calls Try.prog 5 #[v] w fun e w' => e = .returned (.bool true) ∧ Below w.heap.size w w' := by
  obtain ⟨ad, cap, rfl, _, _⟩ := id hv
  have hm : l.length ≤ maxLen := by unfold maxLen; omega
  go_enter Try.func5, Try.ntmps5
  go_wp2_with fail
  refine (lentAt _ l _ _ (Nat.le_refl _) (by omega) hv).mono ?_; rintro e w1 ⟨g, cp, rfl, hL1, _, h1⟩
  have z1 := h1.size
  have hv1 := hv.below h1 (Nat.le_refl _)
  go_wp2_with fail
  refine (First_ok _ l _ _ (Nat.le_refl _) hm hL1.row).mono ?_; rintro e w2 ⟨rfl, h2⟩
  have z2 := h2.size
  have hL2 := hL1.below h2 (Nat.le_refl _)
  have hv2 := hv1.below h2 z1
  go_wp2_with fail
  refine (rFirst_ok _ l _ _ (by omega) hm hv2).mono ?_; rintro e w3 ⟨rfl, h3⟩
  have z3 := h3.size
  have hL3 := hL2.below h3 z2
  have hv3 := hv2.below h3 (by omega)
  go_wp2_with fail
  refine (Zero_ok _ l _ _ (by omega) hm hL3.row).mono ?_; rintro e w4 ⟨rfl, h4⟩
  have z4 := h4.size
  have hL4 := hL3.below h4 (by omega)
  have hv4 := hv3.below h4 (by omega)
  go_wp2_with fail
  refine (rFirst_ok _ l _ _ (by omega) hm hv4).mono ?_; rintro e w5 ⟨rfl, h5⟩
  have z5 := h5.size
  have hL5 := hL4.below h5 (by omega)
  have hv5 := hv4.below h5 (by omega)
  have hzz : (zeroI l == decide (firstI l < 0)) = true := by simp [zeroI]
  go_wp2_with fail
  refine (keptAt hL5 hv5).mono ?_; rintro e w' ⟨rfl, rfl⟩
  go_wp2_with fail
  refine (works_ok _).mono ?_; rintro e w6 ⟨rfl, h6⟩
  go_wp2_with fail
  go_ret
  exact ⟨rfl, ((((h1.trans (h2.mono (by omega))).trans (h3.mono (by omega))).trans (h4.mono (by omega))).trans (h5.mono (by omega))).trans (h6.mono (by omega))⟩
theorem big (v : Value) (l : List Int) (w : World) (hl : 10000 < l.length) (hv : RowAt w.heap.size w v l.length (intVals .u8 l)) :
    Calls Try.prog 5 #[v] w fun e w' => e = .returned (.bool true) ∧ Below w.heap.size w w' := by
  obtain ⟨ad, cap, rfl, hcap, hrow⟩ := id hv
  clear hrow hv
  go_enter Try.func5, Try.ntmps5
  go_wp2_with fail
  refine (works_ok _).mono ?_; rintro e w5 ⟨rfl, hb5⟩
  go_wp2_with fail
  go_ret
  exact ⟨rfl, hb5⟩

theorem walk (H : Type) (enc : TypeId × Value → H) (W : World) (base : Nat) (args : Array Value) (ds : List (DataW H)) (p : List MemPlace)
    (hval : ∀ (j : Nat) t v, Try.f5.params[j]? = some t → args[j]? = some v → Value.okWide Try.prog W .any base t v)
    (hA : DataW.TrodAll enc Try.prog W 0 (fun _ => true) true Try.f5.params.toList args.toList ds p) (hlt : ∀ x ∈ p, x.block < W.heap.size) :
    Calls Try.prog 5 args W (fun e W' => e = .returned (.bool true) ∧ Below W.heap.size W W') ∧ ∃ d0, ds = [d0] := by
  rw [Try.params5] at hA hval
  obtain ⟨v0, vs0, d0, ds0, p0, q0, hargs, rfl, rfl, h0, r0⟩ := trodAll_cons hA
  obtain ⟨rfl, rfl, rfl⟩ := trodAll_nil r0
  obtain rfl : args = #[v0] := by cases args; simp_all
  obtain ⟨l, hrow, hw, _⟩ := open_row Try.underlying23 Try.underlying5 (by kernel_rfl) (hval 0 23 v0 rfl rfl) h0
  refine ⟨?_, _, rfl⟩
  by_cases hl : l.length ≤ 10000
  · exact small v0 l W hl hrow
  · exact big v0 l W (by omega) hrow

theorem own : ownKnob Try.prog.godebug = none := by kernel_rfl
set_option maxRecDepth 100000 in
theorem lifted (os : Os) (started : os.Started) (H : Type) (enc : TypeId × Value → H) :
    ReturnsInHanded {} Try.checked os 5 .any (Rows.wordZerosSpec.pre6 enc Try.prog Try.f5 Rows.wordZerosRow.domain false) (Rows.wordZerosSpec.post enc Try.prog Try.f5 false true false false) := by
  refine returnsInHanded_of_change (C := Try.checked) own started (by kernel_rfl) Try.func5
    (ChangeSpec.witness6 (enc := enc) (C := Try.checked) false ⟨#[], #[.slice none 0 0], []⟩ 8 (by kernel_rfl) (by kernel_rfl) (by kernel_rfl) (by kernel_rfl)) ?_
  intro W base args ds gs before hval hW hcnd _
  have hW' := hW
  obtain ⟨p, q, hA, hV, rfl, hfz, hnd⟩ := hW
  obtain ⟨rfl, rfl⟩ := trodVars_none hV
  have hlt : ∀ x ∈ p, x.block < W.heap.size := fun x hx => hW'.lt x (List.mem_append_left _ hx)
  obtain ⟨hc, d0, rfl⟩ := walk H enc W base args ds p hval hA hlt
  refine hc.mono fun e W' ⟨he, hb⟩ => ?_
  subst he
  exact ⟨_, rfl, law_post (by kernel_rfl) (by kernel_rfl) rfl (by kernel_rfl) rfl rfl rfl rfl hW' hA hlt hb⟩

theorem over : Rows.wordZerosRow.holds Try.pinned (OpenSpec.ofChange Rows.wordZerosSpec) :=
  OpenClaim.holds_of_wide 5 Try.f5 rfl rfl rfl rfl rfl rfl rfl ⟨rfl, rfl, rfl, rfl, rfl⟩ rfl rfl rfl rfl rfl (by kernel_rfl) Try.func5 (by kernel_rfl)
    (of_decide_eq_true (by kernel_rfl)) (by unfold Func.isWrapper; first | (rw [if_pos (by decide +kernel)]; kernel_rfl) | (rw [if_neg (by decide +kernel)]; exact ⟨rfl, rfl⟩))
    (fun os started H enc _ => lifted os started H enc)

theorem proved : Rows.WordZerosSaid :=
  over

end Go.Proofs.Ytalaaembfgapfaa.wordZeros
