/-
  'WindowSites' returns true for every input, and leaves what it is given as it was. No condition.
-/
import Derived.Test.YtcgdipkmcgionaaFrame
import Derived.Test.YtcgdipkmcgionaaWinW
namespace Go.Proofs.Ytcgdipkmcgionaa.windowSites
open Go.ChangeShapes Go.WideShapes Go.ChangeAt Go.RowKit Go.Proofs.Ytcgdipkmcgionaa
set_option linter.unusedVariables false
set_option maxHeartbeats 1000000

theorem yes (page : Int) (hp : inI 65536 page = true) (w : World) : Calls Try.prog 4 #[.int .i64 page] w fun e w' => e = .returned (.bool true) ∧ Below w.heap.size w w' := by
  obtain ⟨q, r, c, p, hv⟩ := ofV_site page
  have k := Below.refl w.heap.size w
  go_enter Try.func4, Try.ntmps4
  go_wp2_with fail
  refine (Of_ok page hp _).mono ?_; rintro e w1 ⟨rfl, h⟩
  replace k := k.trans (h.mono k.size); clear h
  rw [hv]
  dsimp only [siteV]
  have b := Blk.new w1 #[.int .i64 q, .int .i64 r, .int .i64 c, .int .i64 p] 36
  replace k := k.alloc k.size (.cells #[.int .i64 q, .int .i64 r, .int .i64 c, .int .i64 p] 36)
  go_wp2_with fail
  refine (rOf_ok page hp _).mono ?_; rintro e w2 ⟨rfl, h⟩
  rw [hv]
  dsimp only [siteV]
  replace k := (k.trans (h.mono k.size)).alloc (k.trans (h.mono k.size)).size (.cells #[.int .i64 q, .int .i64 r, .int .i64 c, .int .i64 p] 36)
  replace b := (b.below h b.lt).alloc (.cells #[.int .i64 q, .int .i64 r, .int .i64 c, .int .i64 p] 36)
  clear h hv
  obtain ⟨x0, x1, x2, x3⟩ := cells4 b
  clear b
  go_wp2_with fail
  refine (num_calls _ _).mono ?_; rintro e w1 ⟨rfl, rfl⟩
  go_wp2_with fail
  refine (works_ok _).mono ?_; rintro e w1 ⟨rfl, h⟩
  replace k := k.trans (h.mono k.size); clear h
  go_wp2_with fail
  go_ret
  exact ⟨rfl, k⟩
theorem no (page : Int) (hp : inI 65536 page = false) (w : World) : Calls Try.prog 4 #[.int .i64 page] w fun e w' => e = .returned (.bool true) ∧ Below w.heap.size w w' := by
  have k := Below.refl w.heap.size w
  go_enter Try.func4, Try.ntmps4
  go_wp2_with fail
  refine (Of_no page hp _).mono ?_; rintro e w1 ⟨rfl, h⟩
  replace k := k.trans (h.mono k.size); clear h
  dsimp only [siteV]
  have b := Blk.new w1 #[.int .i64 0, .int .i64 0, .int .i64 0, .int .i64 0] 36
  replace k := k.alloc k.size (.cells #[.int .i64 0, .int .i64 0, .int .i64 0, .int .i64 0] 36)
  go_wp2_with fail
  refine (rOf_no page hp _).mono ?_; rintro e w2 ⟨rfl, h⟩
  dsimp only [siteV]
  replace k := (k.trans (h.mono k.size)).alloc (k.trans (h.mono k.size)).size (.cells #[.int .i64 0, .int .i64 0, .int .i64 0, .int .i64 0] 36)
  replace b := (b.below h b.lt).alloc (.cells #[.int .i64 0, .int .i64 0, .int .i64 0, .int .i64 0] 36)
  clear h
  obtain ⟨x0, x1, x2, x3⟩ := cells4 b
  clear b
  go_wp2_with fail
  refine (num_calls _ _).mono ?_; rintro e w1 ⟨rfl, rfl⟩
  go_wp2_with fail
  refine (works_ok _).mono ?_; rintro e w1 ⟨rfl, h⟩
  replace k := k.trans (h.mono k.size); clear h
  go_wp2_with fail
  go_ret
  exact ⟨rfl, k⟩
theorem body (page : Int) (_ : -9223372036854775808 ≤ page) (_ : page ≤ 9223372036854775807) (w : World) : Calls Try.prog 4 #[.int .i64 page] w fun e w' => e = .returned (.bool true) ∧ Below w.heap.size w w' := by
  by_cases h : inI 65536 page = true
  · exact yes page h w
  · exact no page (by simpa using h) w

theorem walk (H : Type) (enc : TypeId × Value → H) (W : World) (base : Nat) (args : Array Value) (ds : List (DataW H)) (p : List MemPlace)
    (hval : ∀ (j : Nat) t v, Try.f4.params[j]? = some t → args[j]? = some v → Value.okWide Try.prog W .any base t v)
    (hA : DataW.TrodAll enc Try.prog W 0 (fun _ => true) true Try.f4.params.toList args.toList ds p) (hlt : ∀ x ∈ p, x.block < W.heap.size) :
    Calls Try.prog 4 args W (fun e W' => e = .returned (.bool true) ∧ Below W.heap.size W W') ∧ ∃ d0, ds = [d0] := by
  rw [Try.params4] at hA hval
  obtain ⟨v0, vs0, d0, ds0, p0, q0, hargs, rfl, rfl, h0, r0⟩ := trodAll_cons hA
  obtain ⟨rfl, rfl, rfl⟩ := trodAll_nil r0
  obtain rfl : args = #[v0] := by cases args; simp_all
  obtain ⟨a0, rfl, rfl, rfl, w0⟩ := open_int Try.underlying3 (hval 0 3 v0 rfl rfl) h0
  have b0 := i64_bd w0
  exact ⟨body a0 b0.1 b0.2 W, _, rfl⟩

theorem own : ownKnob Try.prog.godebug = none := by kernel_rfl
set_option maxRecDepth 100000 in
theorem lifted (os : Os) (started : os.Started) (H : Type) (enc : TypeId × Value → H) :
    ReturnsInHanded {} Try.checked os 4 .any (Rows.windowSitesSpec.pre6 enc Try.prog Try.f4 Rows.windowSitesRow.domain false) (Rows.windowSitesSpec.post enc Try.prog Try.f4 false true false false) := by
  refine returnsInHanded_of_change (C := Try.checked) own started (by kernel_rfl) Try.func4
    (ChangeSpec.witness6 (enc := enc) (C := Try.checked) false ⟨#[], #[.int .i64 0], []⟩ 8 (by kernel_rfl) (by kernel_rfl) (by kernel_rfl) (by kernel_rfl)) ?_
  intro W base args ds gs before hval hW hcnd _
  have hW' := hW
  obtain ⟨p, q, hA, hV, rfl, hfz, hnd⟩ := hW
  obtain ⟨rfl, rfl⟩ := trodVars_none hV
  have hlt : ∀ x ∈ p, x.block < W.heap.size := fun x hx => hW'.lt x (List.mem_append_left _ hx)
  obtain ⟨hc, d0, rfl⟩ := walk H enc W base args ds p hval hA hlt
  refine hc.mono fun e W' ⟨he, hb⟩ => ?_
  subst he
  exact ⟨_, rfl, law_post (by kernel_rfl) (by kernel_rfl) rfl (by kernel_rfl) rfl rfl rfl rfl hW' hA hlt hb⟩

theorem over : Rows.windowSitesRow.holds Try.pinned (OpenSpec.ofChange Rows.windowSitesSpec) :=
  OpenClaim.holds_of_wide 4 Try.f4 rfl rfl rfl rfl rfl rfl rfl ⟨rfl, rfl, rfl, rfl, rfl⟩ rfl rfl rfl rfl rfl (by kernel_rfl) Try.func4 (by kernel_rfl)
    (of_decide_eq_true (by kernel_rfl)) (by unfold Func.isWrapper; first | (rw [if_pos (by decide +kernel)]; kernel_rfl) | (rw [if_neg (by decide +kernel)]; exact ⟨rfl, rfl⟩))
    (fun os started H enc _ => lifted os started H enc)

theorem proved : Rows.WindowSitesSaid :=
  over

end Go.Proofs.Ytcgdipkmcgionaa.windowSites
