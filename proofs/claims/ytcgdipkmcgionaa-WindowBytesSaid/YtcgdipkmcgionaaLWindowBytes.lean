/-
  'WindowBytes' returns true for every input, and leaves what it is given as it was. No condition.
-/
import Derived.Test.YtcgdipkmcgionaaFrame
import Derived.Test.YtcgdipkmcgionaaWinW
namespace Go.Proofs.Ytcgdipkmcgionaa.windowBytes
open Go.ChangeShapes Go.WideShapes Go.ChangeAt Go.RowKit Go.Proofs.Ytcgdipkmcgionaa
set_option linter.unusedVariables false
set_option maxHeartbeats 1000000

theorem yes (page c at' : Int) (h0 : 0 ≤ at') (h1 : at' < 4294967296) (hp : inI 65536 page = true) (hc : inI 256 c = true) (w : World) : Calls Try.prog 5 #[.int .i64 page, .int .i64 c, .int .u32 at'] w fun e w' => e = .returned (.bool true) ∧ Below w.heap.size w w' := by
  have k := Below.refl w.heap.size w
  have hp' : 0 ≤ page ∧ page < 65536 := by simpa [inI] using hp
  have hc' : 0 ≤ c ∧ c < 256 := by simpa [inI] using hc
  obtain ⟨hp0, hp1⟩ := hp'
  obtain ⟨hc0, hc1⟩ := hc'
  have d0 : decide (page < 0) = false := by simp; omega
  have d1 : decide (65535 < page) = false := by simp; omega
  have d2 : decide (c < 0) = false := by simp; omega
  have d3 : decide (255 < c) = false := by simp; omega
  have q0 : (256 * page + c) / 256 = page := by omega
  have q1 : (256 * page + c) % 256 = c := by omega
  have q2 : page * 256 + c = 256 * page + c := by omega
  go_enter Try.func5, Try.ntmps5
  go_wp2_with fail
  refine (Address_ok page c hp hc _).mono ?_; rintro e w1 ⟨rfl, h⟩
  replace k := k.trans (h.mono k.size); clear h
  go_wp2_with fail
  refine (Split_ok (256 * page + c) (by omega) (by omega) _).mono ?_; rintro e w1 ⟨rfl, rfl⟩
  rw [q0, q1]
  go_wp2_with fail
  refine (num_calls _ _).mono ?_; rintro e w1 ⟨rfl, rfl⟩
  go_wp2_with fail
  refine (num_calls _ _).mono ?_; rintro e w1 ⟨rfl, rfl⟩
  by_cases ha : at' < 16777216
  · have ds : decide (16777216 ≤ at') = false := by simp; omega
    go_wp2_with fail
    refine (Split_ok at' h0 ha _).mono ?_; rintro e w1 ⟨rfl, rfl⟩
    go_wp2_with fail
    refine (num_calls _ _).mono ?_; rintro e w1 ⟨rfl, rfl⟩
    go_wp2_with fail
    refine (works_ok _).mono ?_; rintro e w1 ⟨rfl, h⟩
    replace k := k.trans (h.mono k.size); clear h
    go_wp2_with fail
    go_ret
    exact ⟨rfl, k⟩
  · have ds : decide (16777216 ≤ at') = true := by simp; omega
    go_wp2_with fail
    refine (Split_no at' (by omega) _).mono ?_; rintro e w1 ⟨rfl, rfl⟩
    go_wp2_with fail
    refine (num_calls _ _).mono ?_; rintro e w1 ⟨rfl, rfl⟩
    go_wp2_with fail
    refine (works_ok _).mono ?_; rintro e w1 ⟨rfl, h⟩
    replace k := k.trans (h.mono k.size); clear h
    go_wp2_with fail
    go_ret
    exact ⟨rfl, k⟩
theorem n0 (page c at' : Int) (h0 : 0 ≤ at') (h1 : at' < 4294967296) (e : page < 0) (w : World) : Calls Try.prog 5 #[.int .i64 page, .int .i64 c, .int .u32 at'] w fun e w' => e = .returned (.bool true) ∧ Below w.heap.size w w' := by
  have k := Below.refl w.heap.size w
  have d0 : decide (page < 0) = true := by simp; omega
  go_enter Try.func5, Try.ntmps5
  go_wp2_with fail
  refine (Address_no page c (.inl (by simp [inI]; omega)) _).mono ?_; rintro e w1 ⟨rfl, h⟩
  replace k := k.trans (h.mono k.size); clear h
  go_wp2_with fail
  refine (num_calls _ _).mono ?_; rintro e w1 ⟨rfl, rfl⟩
  by_cases ha : at' < 16777216
  · have ds : decide (16777216 ≤ at') = false := by simp; omega
    go_wp2_with fail
    refine (Split_ok at' h0 ha _).mono ?_; rintro e w1 ⟨rfl, rfl⟩
    go_wp2_with fail
    refine (num_calls _ _).mono ?_; rintro e w1 ⟨rfl, rfl⟩
    go_wp2_with fail
    refine (works_ok _).mono ?_; rintro e w1 ⟨rfl, h⟩
    replace k := k.trans (h.mono k.size); clear h
    go_wp2_with fail
    go_ret
    exact ⟨rfl, k⟩
  · have ds : decide (16777216 ≤ at') = true := by simp; omega
    go_wp2_with fail
    refine (Split_no at' (by omega) _).mono ?_; rintro e w1 ⟨rfl, rfl⟩
    go_wp2_with fail
    refine (num_calls _ _).mono ?_; rintro e w1 ⟨rfl, rfl⟩
    go_wp2_with fail
    refine (works_ok _).mono ?_; rintro e w1 ⟨rfl, h⟩
    replace k := k.trans (h.mono k.size); clear h
    go_wp2_with fail
    go_ret
    exact ⟨rfl, k⟩
theorem n1 (page c at' : Int) (h0 : 0 ≤ at') (h1 : at' < 4294967296) (e : 65535 < page) (w : World) : Calls Try.prog 5 #[.int .i64 page, .int .i64 c, .int .u32 at'] w fun e w' => e = .returned (.bool true) ∧ Below w.heap.size w w' := by
  have k := Below.refl w.heap.size w
  have d0 : decide (page < 0) = false := by simp; omega
  have d1 : decide (65535 < page) = true := by simp; omega
  go_enter Try.func5, Try.ntmps5
  go_wp2_with fail
  refine (Address_no page c (.inl (by simp [inI]; omega)) _).mono ?_; rintro e w1 ⟨rfl, h⟩
  replace k := k.trans (h.mono k.size); clear h
  go_wp2_with fail
  refine (num_calls _ _).mono ?_; rintro e w1 ⟨rfl, rfl⟩
  by_cases ha : at' < 16777216
  · have ds : decide (16777216 ≤ at') = false := by simp; omega
    go_wp2_with fail
    refine (Split_ok at' h0 ha _).mono ?_; rintro e w1 ⟨rfl, rfl⟩
    go_wp2_with fail
    refine (num_calls _ _).mono ?_; rintro e w1 ⟨rfl, rfl⟩
    go_wp2_with fail
    refine (works_ok _).mono ?_; rintro e w1 ⟨rfl, h⟩
    replace k := k.trans (h.mono k.size); clear h
    go_wp2_with fail
    go_ret
    exact ⟨rfl, k⟩
  · have ds : decide (16777216 ≤ at') = true := by simp; omega
    go_wp2_with fail
    refine (Split_no at' (by omega) _).mono ?_; rintro e w1 ⟨rfl, rfl⟩
    go_wp2_with fail
    refine (num_calls _ _).mono ?_; rintro e w1 ⟨rfl, rfl⟩
    go_wp2_with fail
    refine (works_ok _).mono ?_; rintro e w1 ⟨rfl, h⟩
    replace k := k.trans (h.mono k.size); clear h
    go_wp2_with fail
    go_ret
    exact ⟨rfl, k⟩
theorem n2 (page c at' : Int) (h0 : 0 ≤ at') (h1 : at' < 4294967296) (e0 : 0 ≤ page) (e1 : page < 65536) (e : c < 0) (w : World) : Calls Try.prog 5 #[.int .i64 page, .int .i64 c, .int .u32 at'] w fun e w' => e = .returned (.bool true) ∧ Below w.heap.size w w' := by
  have k := Below.refl w.heap.size w
  have d0 : decide (page < 0) = false := by simp; omega
  have d1 : decide (65535 < page) = false := by simp; omega
  have d2 : decide (c < 0) = true := by simp; omega
  go_enter Try.func5, Try.ntmps5
  go_wp2_with fail
  refine (Address_no page c (.inr (by simp [inI]; omega)) _).mono ?_; rintro e w1 ⟨rfl, h⟩
  replace k := k.trans (h.mono k.size); clear h
  go_wp2_with fail
  refine (num_calls _ _).mono ?_; rintro e w1 ⟨rfl, rfl⟩
  by_cases ha : at' < 16777216
  · have ds : decide (16777216 ≤ at') = false := by simp; omega
    go_wp2_with fail
    refine (Split_ok at' h0 ha _).mono ?_; rintro e w1 ⟨rfl, rfl⟩
    go_wp2_with fail
    refine (num_calls _ _).mono ?_; rintro e w1 ⟨rfl, rfl⟩
    go_wp2_with fail
    refine (works_ok _).mono ?_; rintro e w1 ⟨rfl, h⟩
    replace k := k.trans (h.mono k.size); clear h
    go_wp2_with fail
    go_ret
    exact ⟨rfl, k⟩
  · have ds : decide (16777216 ≤ at') = true := by simp; omega
    go_wp2_with fail
    refine (Split_no at' (by omega) _).mono ?_; rintro e w1 ⟨rfl, rfl⟩
    go_wp2_with fail
    refine (num_calls _ _).mono ?_; rintro e w1 ⟨rfl, rfl⟩
    go_wp2_with fail
    refine (works_ok _).mono ?_; rintro e w1 ⟨rfl, h⟩
    replace k := k.trans (h.mono k.size); clear h
    go_wp2_with fail
    go_ret
    exact ⟨rfl, k⟩
theorem n3 (page c at' : Int) (h0 : 0 ≤ at') (h1 : at' < 4294967296) (e0 : 0 ≤ page) (e1 : page < 65536) (e : 255 < c) (w : World) : Calls Try.prog 5 #[.int .i64 page, .int .i64 c, .int .u32 at'] w fun e w' => e = .returned (.bool true) ∧ Below w.heap.size w w' := by
  have k := Below.refl w.heap.size w
  have d0 : decide (page < 0) = false := by simp; omega
  have d1 : decide (65535 < page) = false := by simp; omega
  have d2 : decide (c < 0) = false := by simp; omega
  have d3 : decide (255 < c) = true := by simp; omega
  go_enter Try.func5, Try.ntmps5
  go_wp2_with fail
  refine (Address_no page c (.inr (by simp [inI]; omega)) _).mono ?_; rintro e w1 ⟨rfl, h⟩
  replace k := k.trans (h.mono k.size); clear h
  go_wp2_with fail
  refine (num_calls _ _).mono ?_; rintro e w1 ⟨rfl, rfl⟩
  by_cases ha : at' < 16777216
  · have ds : decide (16777216 ≤ at') = false := by simp; omega
    go_wp2_with fail
    refine (Split_ok at' h0 ha _).mono ?_; rintro e w1 ⟨rfl, rfl⟩
    go_wp2_with fail
    refine (num_calls _ _).mono ?_; rintro e w1 ⟨rfl, rfl⟩
    go_wp2_with fail
    refine (works_ok _).mono ?_; rintro e w1 ⟨rfl, h⟩
    replace k := k.trans (h.mono k.size); clear h
    go_wp2_with fail
    go_ret
    exact ⟨rfl, k⟩
  · have ds : decide (16777216 ≤ at') = true := by simp; omega
    go_wp2_with fail
    refine (Split_no at' (by omega) _).mono ?_; rintro e w1 ⟨rfl, rfl⟩
    go_wp2_with fail
    refine (num_calls _ _).mono ?_; rintro e w1 ⟨rfl, rfl⟩
    go_wp2_with fail
    refine (works_ok _).mono ?_; rintro e w1 ⟨rfl, h⟩
    replace k := k.trans (h.mono k.size); clear h
    go_wp2_with fail
    go_ret
    exact ⟨rfl, k⟩
theorem body (page c at' : Int) (_ : -9223372036854775808 ≤ page) (_ : page ≤ 9223372036854775807) (_ : -9223372036854775808 ≤ c) (_ : c ≤ 9223372036854775807) (h0 : 0 ≤ at') (h1 : at' < 4294967296) (w : World) : Calls Try.prog 5 #[.int .i64 page, .int .i64 c, .int .u32 at'] w fun e w' => e = .returned (.bool true) ∧ Below w.heap.size w w' := by
  by_cases e0 : page < 0
  · exact n0 page c at' h0 h1 e0 w
  by_cases e1 : 65535 < page
  · exact n1 page c at' h0 h1 e1 w
  by_cases e2 : c < 0
  · exact n2 page c at' h0 h1 (by omega) (by omega) e2 w
  by_cases e3 : 255 < c
  · exact n3 page c at' h0 h1 (by omega) (by omega) e3 w
  exact yes page c at' h0 h1 (by simp [inI]; omega) (by simp [inI]; omega) w

theorem walk (H : Type) (enc : TypeId × Value → H) (W : World) (base : Nat) (args : Array Value) (ds : List (DataW H)) (p : List MemPlace)
    (hval : ∀ (j : Nat) t v, Try.f5.params[j]? = some t → args[j]? = some v → Value.okWide Try.prog W .any base t v)
    (hA : DataW.TrodAll enc Try.prog W 0 (fun _ => true) true Try.f5.params.toList args.toList ds p) (hlt : ∀ x ∈ p, x.block < W.heap.size) :
    Calls Try.prog 5 args W (fun e W' => e = .returned (.bool true) ∧ Below W.heap.size W W') ∧ ∃ d0 d1 d2, ds = [d0, d1, d2] := by
  rw [Try.params5] at hA hval
  obtain ⟨v0, vs0, d0, ds0, p0, q0, hargs, rfl, rfl, h0, r0⟩ := trodAll_cons hA
  obtain ⟨v1, vs1, d1, ds1, p1, q1, rfl, rfl, rfl, h1, r1⟩ := trodAll_cons r0
  obtain ⟨v2, vs2, d2, ds2, p2, q2, rfl, rfl, rfl, h2, r2⟩ := trodAll_cons r1
  obtain ⟨rfl, rfl, rfl⟩ := trodAll_nil r2
  obtain rfl : args = #[v0, v1, v2] := by cases args; simp_all
  obtain ⟨a0, rfl, rfl, rfl, w0⟩ := open_int Try.underlying3 (hval 0 3 v0 rfl rfl) h0
  obtain ⟨a1, rfl, rfl, rfl, w1⟩ := open_int Try.underlying3 (hval 1 3 v1 rfl rfl) h1
  obtain ⟨a2, rfl, rfl, rfl, w2⟩ := open_int Try.underlying41 (hval 2 41 v2 rfl rfl) h2
  have b2 := u32_bd w2
  have b0 := i64_bd w0
  have b1 := i64_bd w1
  exact ⟨body a0 a1 a2 b0.1 b0.2 b1.1 b1.2 b2.1 b2.2 W, _, _, _, rfl⟩

theorem own : ownKnob Try.prog.godebug = none := by kernel_rfl
set_option maxRecDepth 100000 in
theorem lifted (os : Os) (started : os.Started) (H : Type) (enc : TypeId × Value → H) :
    ReturnsInHanded {} Try.checked os 5 .any (Rows.windowBytesSpec.pre6 enc Try.prog Try.f5 Rows.windowBytesRow.domain false) (Rows.windowBytesSpec.post enc Try.prog Try.f5 false true false false) := by
  refine returnsInHanded_of_change (C := Try.checked) own started (by kernel_rfl) Try.func5
    (ChangeSpec.witness6 (enc := enc) (C := Try.checked) false ⟨#[], #[.int .i64 0, .int .i64 0, .int .u32 0], []⟩ 8 (by kernel_rfl) (by kernel_rfl) (by kernel_rfl) (by kernel_rfl)) ?_
  intro W base args ds gs before hval hW hcnd _
  have hW' := hW
  obtain ⟨p, q, hA, hV, rfl, hfz, hnd⟩ := hW
  obtain ⟨rfl, rfl⟩ := trodVars_none hV
  have hlt : ∀ x ∈ p, x.block < W.heap.size := fun x hx => hW'.lt x (List.mem_append_left _ hx)
  obtain ⟨hc, d0, d1, d2, rfl⟩ := walk H enc W base args ds p hval hA hlt
  refine hc.mono fun e W' ⟨he, hb⟩ => ?_
  subst he
  exact ⟨_, rfl, law_post (by kernel_rfl) (by kernel_rfl) rfl (by kernel_rfl) rfl rfl rfl rfl hW' hA hlt hb⟩

theorem over : Rows.windowBytesRow.holds Try.pinned (OpenSpec.ofChange Rows.windowBytesSpec) :=
  OpenClaim.holds_of_wide 5 Try.f5 rfl rfl rfl rfl rfl rfl rfl ⟨rfl, rfl, rfl, rfl, rfl⟩ rfl rfl rfl rfl rfl (by kernel_rfl) Try.func5 (by kernel_rfl)
    (of_decide_eq_true (by kernel_rfl)) (by unfold Func.isWrapper; first | (rw [if_pos (by decide +kernel)]; kernel_rfl) | (rw [if_neg (by decide +kernel)]; exact ⟨rfl, rfl⟩))
    (fun os started H enc _ => lifted os started H enc)

theorem proved : Rows.WindowBytesSaid :=
  over

end Go.Proofs.Ytcgdipkmcgionaa.windowBytes
