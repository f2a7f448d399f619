/-
  'WordDiffers' returns true for every input, and leaves what it is given as it was. No condition.
-/
import Derived.Test.YtalaaembfgapfaaFrame
import Derived.Test.YtalaaembfgapfaaWordG
namespace Go.Proofs.Ytalaaembfgapfaa.wordDiffers
open Go.ChangeShapes Go.WideShapes Go.ChangeAt Go.RowKit Go.Proofs.Ytalaaembfgapfaa
set_option linter.unusedVariables false
set_option maxHeartbeats 400000

theorem small (va vb : Value) (a b : List Int) (w : World) (hla : a.length ≤ 10000) (hlb : b.length ≤ 10000) (hva : RowAt w.heap.size w va a.length (intVals .u8 a)) (hvb : RowAt w.heap.size w vb b.length (intVals .u8 b)) :
    Calls Try.prog 6 #[va, vb] w fun e w' => e = .returned (.bool true) ∧ Below w.heap.size w w' := by
  obtain ⟨ada, capa, rfl, _, _⟩ := id hva
  obtain ⟨adb, capb, rfl, _, _⟩ := id hvb
  have hma : a.length ≤ maxLen := by unfold maxLen; omega
  have hmb : b.length ≤ maxLen := by unfold maxLen; omega
  go_enter Try.func6, Try.ntmps6
  go_wp2_with fail
  refine (lentAt _ a _ _ (Nat.le_refl _) (by omega) hva).mono ?_; rintro e w1 ⟨g, cp, rfl, hL1, _, h1⟩
  have z1 := h1.size
  have hva1 := hva.below h1 (Nat.le_refl _)
  have hvb1 := hvb.below h1 (Nat.le_refl _)
  go_wp2_with fail
  refine (lentAt _ b _ _ z1 (by omega) hvb1).mono ?_; rintro e w2 ⟨g2, cp2, rfl, hO2, _, h2⟩
  have z2 := h2.size
  have hva2 := hva1.below h2 z1
  have hvb2 := hvb1.below h2 z1
  have hL2 := hL1.below h2 (Nat.le_refl _)
  go_wp2_with fail
  refine (rDiffer_ok _ _ a b _ _ (by omega) hma hmb hva2 hvb2).mono ?_; rintro e w3 ⟨rfl, h3⟩
  have z3 := h3.size
  have hva3 := hva2.below h3 (by omega)
  have hvb3 := hvb2.below h3 (by omega)
  have hL3 := hL2.below h3 (by omega)
  have hO3 := hO2.below h3 (by omega)
  go_wp2_with fail
  refine (Differ_ok _ _ a b w2.heap.size _ z3 hma hmb (hL3.row.mono z2) hO3.row).mono ?_; rintro e w4 ⟨rfl, h4⟩
  have z4 := h4.size
  have hva4 := hva3.below h4 (by omega)
  have hvb4 := hvb3.below h4 (by omega)
  have hL4 := hL3.below h4 (by omega)
  have hO4 := hO3.below h4 (by omega)
  go_wp2_with fail
  refine (Differ_ok _ _ b a w2.heap.size _ (by omega) hmb hma hO4.row (hL4.row.mono z2)).mono ?_; rintro e w5 ⟨rfl, h5⟩
  have z5 := h5.size
  have hva5 := hva4.below h5 (by omega)
  have hvb5 := hvb4.below h5 (by omega)
  have hL5 := hL4.below h5 (by omega)
  have hO5 := hO4.below h5 (by omega)
  rw [differI_comm b a]
  go_wp2_with fail
  refine (Differ_ok _ _ a a w2.heap.size _ (by omega) hma hma (hL5.row.mono z2) (hL5.row.mono z2)).mono ?_; rintro e w6 ⟨rfl, h6⟩
  have z6 := h6.size
  have hva6 := hva5.below h6 (by omega)
  have hvb6 := hvb5.below h6 (by omega)
  have hL6 := hL5.below h6 (by omega)
  have hO6 := hO5.below h6 (by omega)
  rw [differI_self]
  go_wp2_with fail
  refine (keptAt hL6 hva6).mono ?_; rintro e w' ⟨rfl, rfl⟩
  go_wp2_with fail
  refine (keptAt hO6 hvb6).mono ?_; rintro e w' ⟨rfl, rfl⟩
  go_wp2_with fail
  refine (works_ok _).mono ?_; rintro e w7 ⟨rfl, h7⟩
  go_wp2_with fail
  go_ret
  exact ⟨rfl, (((((h1.trans (h2.mono (by omega))).trans (h3.mono (by omega))).trans (h4.mono (by omega))).trans (h5.mono (by omega))).trans (h6.mono (by omega))).trans (h7.mono (by omega))⟩
theorem big (va vb : Value) (a b : List Int) (w : World) (hl : 10000 < a.length ∨ 10000 < b.length) (hva : RowAt w.heap.size w va a.length (intVals .u8 a)) (hvb : RowAt w.heap.size w vb b.length (intVals .u8 b)) :
    Calls Try.prog 6 #[va, vb] w fun e w' => e = .returned (.bool true) ∧ Below w.heap.size w w' := by
  obtain ⟨ada, capa, rfl, _, _⟩ := id hva
  obtain ⟨adb, capb, rfl, _, _⟩ := id hvb
  clear hva hvb
  by_cases h : 10000 < a.length
  · go_enter Try.func6, Try.ntmps6
    go_wp2_with fail
    refine (works_ok _).mono ?_; rintro e w5 ⟨rfl, hb5⟩
    go_wp2_with fail
    go_ret
    exact ⟨rfl, hb5⟩
  · have h' : 10000 < b.length := by omega
    go_enter Try.func6, Try.ntmps6
    go_wp2_with fail
    refine (works_ok _).mono ?_; rintro e w5 ⟨rfl, hb5⟩
    go_wp2_with fail
    go_ret
    exact ⟨rfl, hb5⟩

theorem walk (H : Type) (enc : TypeId × Value → H) (W : World) (base : Nat) (args : Array Value) (ds : List (DataW H)) (p : List MemPlace)
    (hval : ∀ (j : Nat) t v, Try.f6.params[j]? = some t → args[j]? = some v → Value.okWide Try.prog W .any base t v)
    (hA : DataW.TrodAll enc Try.prog W 0 (fun _ => true) true Try.f6.params.toList args.toList ds p) (hlt : ∀ x ∈ p, x.block < W.heap.size) :
    Calls Try.prog 6 args W (fun e W' => e = .returned (.bool true) ∧ Below W.heap.size W W') ∧ ∃ d0 d1, ds = [d0, d1] := by
  rw [Try.params6] at hA hval
  obtain ⟨v0, vs0, d0, ds0, p0, q0, hargs, rfl, rfl, h0, r0⟩ := trodAll_cons hA
  obtain ⟨v1, vs1, d1, ds1, p1, q1, rfl, rfl, rfl, h1, r1⟩ := trodAll_cons r0
  obtain ⟨rfl, rfl, rfl⟩ := trodAll_nil r1
  obtain rfl : args = #[v0, v1] := by cases args; simp_all
  obtain ⟨a, hra, _, _⟩ := open_row Try.underlying23 Try.underlying5 (by kernel_rfl) (hval 0 23 v0 rfl rfl) h0
  obtain ⟨b, hrb, _, _⟩ := open_row Try.underlying23 Try.underlying5 (by kernel_rfl) (hval 1 23 v1 rfl rfl) h1
  refine ⟨?_, _, _, rfl⟩
  by_cases hl : a.length ≤ 10000 ∧ b.length ≤ 10000
  · exact small v0 v1 a b W hl.1 hl.2 hra hrb
  · exact big v0 v1 a b W (by omega) hra hrb

theorem own : ownKnob Try.prog.godebug = none := by kernel_rfl
set_option maxRecDepth 100000 in
theorem lifted (os : Os) (started : os.Started) (H : Type) (enc : TypeId × Value → H) :
    ReturnsInHanded {} Try.checked os 6 .any (Rows.wordDiffersSpec.pre6 enc Try.prog Try.f6 Rows.wordDiffersRow.domain false) (Rows.wordDiffersSpec.post enc Try.prog Try.f6 false true false false) := by
  refine returnsInHanded_of_change (C := Try.checked) own started (by kernel_rfl) Try.func6
    (ChangeSpec.witness6 (enc := enc) (C := Try.checked) false ⟨#[], #[.slice none 0 0, .slice none 0 0], []⟩ 8 (by kernel_rfl) (by kernel_rfl) (by kernel_rfl) (by kernel_rfl)) ?_
  intro W base args ds gs before hval hW hcnd _
  have hW' := hW
  obtain ⟨p, q, hA, hV, rfl, hfz, hnd⟩ := hW
  obtain ⟨rfl, rfl⟩ := trodVars_none hV
  have hlt : ∀ x ∈ p, x.block < W.heap.size := fun x hx => hW'.lt x (List.mem_append_left _ hx)
  obtain ⟨hc, d0, d1, rfl⟩ := walk H enc W base args ds p hval hA hlt
  refine hc.mono fun e W' ⟨he, hb⟩ => ?_
  subst he
  exact ⟨_, rfl, law_post (by kernel_rfl) (by kernel_rfl) rfl (by kernel_rfl) rfl rfl rfl rfl hW' hA hlt hb⟩

theorem over : Rows.wordDiffersRow.holds Try.pinned (OpenSpec.ofChange Rows.wordDiffersSpec) :=
  OpenClaim.holds_of_wide 6 Try.f6 rfl rfl rfl rfl rfl rfl rfl ⟨rfl, rfl, rfl, rfl, rfl⟩ rfl rfl rfl rfl rfl (by kernel_rfl) Try.func6 (by kernel_rfl)
    (of_decide_eq_true (by kernel_rfl)) (by unfold Func.isWrapper; first | (rw [if_pos (by decide +kernel)]; kernel_rfl) | (rw [if_neg (by decide +kernel)]; exact ⟨rfl, rfl⟩))
    (fun os started H enc _ => lifted os started H enc)

theorem proved : Rows.WordDiffersSaid :=
  over

end Go.Proofs.Ytalaaembfgapfaa.wordDiffers
