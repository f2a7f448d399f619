/-
  'WindowFirsts' returns true for every input, and leaves what it is given as it was. No condition.
-/
import Derived.Test.YtcgdipkmcgionaaFrame
import Derived.Test.YtcgdipkmcgionaaWinW
namespace Go.Proofs.Ytcgdipkmcgionaa.windowFirsts
open Go.ChangeShapes Go.WideShapes Go.ChangeAt Go.RowKit Go.Proofs.Ytcgdipkmcgionaa
set_option linter.unusedVariables false
set_option maxHeartbeats 1000000

theorem no (s c : Int) (h : slotI s = false) (w : World) : Calls Try.prog 3 #[.int .i64 s, .int .i64 c] w fun e w' => e = .returned (.bool true) ∧ Below w.heap.size w w' := by
  have k := Below.refl w.heap.size w
  go_enter Try.func3, Try.ntmps3
  go_wp2_with fail
  refine (Base_arg s h _).mono ?_; rintro e w1 ⟨rfl, h⟩
  replace k := k.trans (h.mono k.size); clear h
  go_wp2_with fail
  refine (Region_arg s c (.inl h) _).mono ?_; rintro e w1 ⟨rfl, h⟩
  replace k := k.trans (h.mono k.size); clear h
  go_wp2_with fail
  refine (Great_arg s h _).mono ?_; rintro e w1 ⟨rfl, h⟩
  replace k := k.trans (h.mono k.size); clear h
  go_wp2_with fail
  refine (Book_arg s h _).mono ?_; rintro e w1 ⟨rfl, h⟩
  replace k := k.trans (h.mono k.size); clear h
  go_wp2_with fail
  refine (Slot_calls s _).mono ?_; rintro e w1 ⟨rfl, rfl⟩
  rw [h]
  repeat (go_wp2_with fail; refine (num_calls _ _).mono ?_; rintro e w' ⟨rfl, rfl⟩)
  go_wp2_with fail
  refine (works_ok _).mono ?_; rintro e w1 ⟨rfl, h⟩
  replace k := k.trans (h.mono k.size); clear h
  go_wp2_with fail
  go_ret
  exact ⟨rfl, k⟩
theorem noC (s c : Int) (h : slotI s = true) (hc : inI 8 c = false) (w : World) : Calls Try.prog 3 #[.int .i64 s, .int .i64 c] w fun e w' => e = .returned (.bool true) ∧ Below w.heap.size w w' := by
  have hs : 0 ≤ s ∧ s < 4 := by simpa [slotI] using h
  obtain ⟨hs0, hs1⟩ := hs
  have k := Below.refl w.heap.size w
  go_enter Try.func3, Try.ntmps3
  go_wp2_with fail
  refine (Base_ok s h _).mono ?_; rintro e w1 ⟨rfl, h⟩
  replace k := k.trans (h.mono k.size); clear h
  go_wp2_with fail
  refine (Region_arg s c (.inr hc) _).mono ?_; rintro e w1 ⟨rfl, h⟩
  replace k := k.trans (h.mono k.size); clear h
  go_wp2_with fail
  refine (Great_ok s h _).mono ?_; rintro e w1 ⟨rfl, h⟩
  replace k := k.trans (h.mono k.size); clear h
  go_wp2_with fail
  refine (Book_ok s h _).mono ?_; rintro e w1 ⟨rfl, h⟩
  replace k := k.trans (h.mono k.size); clear h
  go_wp2_with fail
  refine (Slot_calls s _).mono ?_; rintro e w1 ⟨rfl, rfl⟩
  rw [h]
  go_wp2_with fail
  refine (rBase_calls s h _).mono ?_; rintro e w1 ⟨rfl, rfl⟩
  go_wp2_with fail
  refine (rBook_calls s h _).mono ?_; rintro e w1 ⟨rfl, rfl⟩
  repeat (go_wp2_with fail; refine (num_calls _ _).mono ?_; rintro e w' ⟨rfl, rfl⟩)
  go_wp2_with fail
  refine (Class_calls c _).mono ?_; rintro e w1 ⟨rfl, rfl⟩
  rw [hc]
  repeat (go_wp2_with fail; refine (num_calls _ _).mono ?_; rintro e w' ⟨rfl, rfl⟩)
  go_wp2_with fail
  refine (works_ok _).mono ?_; rintro e w1 ⟨rfl, h⟩
  replace k := k.trans (h.mono k.size); clear h
  go_wp2_with fail
  go_ret
  exact ⟨rfl, k⟩
theorem yes (s c : Int) (h : slotI s = true) (hc : inI 8 c = true) (w : World) : Calls Try.prog 3 #[.int .i64 s, .int .i64 c] w fun e w' => e = .returned (.bool true) ∧ Below w.heap.size w w' := by
  have hs : 0 ≤ s ∧ s < 4 := by simpa [slotI] using h
  obtain ⟨hs0, hs1⟩ := hs
  have k := Below.refl w.heap.size w
  go_enter Try.func3, Try.ntmps3
  go_wp2_with fail
  refine (Base_ok s h _).mono ?_; rintro e w1 ⟨rfl, h⟩
  replace k := k.trans (h.mono k.size); clear h
  go_wp2_with fail
  refine (Region_ok s c h hc _).mono ?_; rintro e w1 ⟨rfl, h⟩
  replace k := k.trans (h.mono k.size); clear h
  go_wp2_with fail
  refine (Great_ok s h _).mono ?_; rintro e w1 ⟨rfl, h⟩
  replace k := k.trans (h.mono k.size); clear h
  go_wp2_with fail
  refine (Book_ok s h _).mono ?_; rintro e w1 ⟨rfl, h⟩
  replace k := k.trans (h.mono k.size); clear h
  go_wp2_with fail
  refine (Slot_calls s _).mono ?_; rintro e w1 ⟨rfl, rfl⟩
  rw [h]
  go_wp2_with fail
  refine (rBase_calls s h _).mono ?_; rintro e w1 ⟨rfl, rfl⟩
  go_wp2_with fail
  refine (rBook_calls s h _).mono ?_; rintro e w1 ⟨rfl, rfl⟩
  repeat (go_wp2_with fail; refine (num_calls _ _).mono ?_; rintro e w' ⟨rfl, rfl⟩)
  go_wp2_with fail
  refine (Class_calls c _).mono ?_; rintro e w1 ⟨rfl, rfl⟩
  rw [hc]
  go_wp2_with fail
  refine (rRegion_calls s c h hc _).mono ?_; rintro e w1 ⟨rfl, rfl⟩
  repeat (go_wp2_with fail; refine (num_calls _ _).mono ?_; rintro e w' ⟨rfl, rfl⟩)
  go_wp2_with fail
  refine (works_ok _).mono ?_; rintro e w1 ⟨rfl, h⟩
  replace k := k.trans (h.mono k.size); clear h
  go_wp2_with fail
  go_ret
  exact ⟨rfl, k⟩
theorem body (s c : Int) (_ : -9223372036854775808 ≤ s) (_ : s ≤ 9223372036854775807) (_ : -9223372036854775808 ≤ c) (_ : c ≤ 9223372036854775807) (w : World) : Calls Try.prog 3 #[.int .i64 s, .int .i64 c] w fun e w' => e = .returned (.bool true) ∧ Below w.heap.size w w' := by
  by_cases h : slotI s = true
  · by_cases hc : inI 8 c = true
    · exact yes s c h hc w
    · exact noC s c h (by simpa using hc) w
  · exact no s c (by simpa using h) w

theorem walk (H : Type) (enc : TypeId × Value → H) (W : World) (base : Nat) (args : Array Value) (ds : List (DataW H)) (p : List MemPlace)
    (hval : ∀ (j : Nat) t v, Try.f3.params[j]? = some t → args[j]? = some v → Value.okWide Try.prog W .any base t v)
    (hA : DataW.TrodAll enc Try.prog W 0 (fun _ => true) true Try.f3.params.toList args.toList ds p) (hlt : ∀ x ∈ p, x.block < W.heap.size) :
    Calls Try.prog 3 args W (fun e W' => e = .returned (.bool true) ∧ Below W.heap.size W W') ∧ ∃ d0 d1, ds = [d0, d1] := by
  rw [Try.params3] at hA hval
  obtain ⟨v0, vs0, d0, ds0, p0, q0, hargs, rfl, rfl, h0, r0⟩ := trodAll_cons hA
  obtain ⟨v1, vs1, d1, ds1, p1, q1, rfl, rfl, rfl, h1, r1⟩ := trodAll_cons r0
  obtain ⟨rfl, rfl, rfl⟩ := trodAll_nil r1
  obtain rfl : args = #[v0, v1] := by cases args; simp_all
  obtain ⟨a0, rfl, rfl, rfl, w0⟩ := open_int Try.underlying3 (hval 0 3 v0 rfl rfl) h0
  obtain ⟨a1, rfl, rfl, rfl, w1⟩ := open_int Try.underlying3 (hval 1 3 v1 rfl rfl) h1
  have b0 := i64_bd w0
  have b1 := i64_bd w1
  exact ⟨body a0 a1 b0.1 b0.2 b1.1 b1.2 W, _, _, rfl⟩

theorem own : ownKnob Try.prog.godebug = none := by kernel_rfl
set_option maxRecDepth 100000 in
theorem lifted (os : Os) (started : os.Started) (H : Type) (enc : TypeId × Value → H) :
    ReturnsInHanded {} Try.checked os 3 .any (Rows.windowFirstsSpec.pre6 enc Try.prog Try.f3 Rows.windowFirstsRow.domain false) (Rows.windowFirstsSpec.post enc Try.prog Try.f3 false true false false) := by
  refine returnsInHanded_of_change (C := Try.checked) own started (by kernel_rfl) Try.func3
    (ChangeSpec.witness6 (enc := enc) (C := Try.checked) false ⟨#[], #[.int .i64 0, .int .i64 0], []⟩ 8 (by kernel_rfl) (by kernel_rfl) (by kernel_rfl) (by kernel_rfl)) ?_
  intro W base args ds gs before hval hW hcnd _
  have hW' := hW
  obtain ⟨p, q, hA, hV, rfl, hfz, hnd⟩ := hW
  obtain ⟨rfl, rfl⟩ := trodVars_none hV
  have hlt : ∀ x ∈ p, x.block < W.heap.size := fun x hx => hW'.lt x (List.mem_append_left _ hx)
  obtain ⟨hc, d0, d1, rfl⟩ := walk H enc W base args ds p hval hA hlt
  refine hc.mono fun e W' ⟨he, hb⟩ => ?_
  subst he
  exact ⟨_, rfl, law_post (by kernel_rfl) (by kernel_rfl) rfl (by kernel_rfl) rfl rfl rfl rfl hW' hA hlt hb⟩

theorem over : Rows.windowFirstsRow.holds Try.pinned (OpenSpec.ofChange Rows.windowFirstsSpec) :=
  OpenClaim.holds_of_wide 3 Try.f3 rfl rfl rfl rfl rfl rfl rfl ⟨rfl, rfl, rfl, rfl, rfl⟩ rfl rfl rfl rfl rfl (by kernel_rfl) Try.func3 (by kernel_rfl)
    (of_decide_eq_true (by kernel_rfl)) (by unfold Func.isWrapper; first | (rw [if_pos (by decide +kernel)]; kernel_rfl) | (rw [if_neg (by decide +kernel)]; exact ⟨rfl, rfl⟩))
    (fun os started H enc _ => lifted os started H enc)

theorem proved : Rows.WindowFirstsSaid :=
  over

end Go.Proofs.Ytcgdipkmcgionaa.windowFirsts
