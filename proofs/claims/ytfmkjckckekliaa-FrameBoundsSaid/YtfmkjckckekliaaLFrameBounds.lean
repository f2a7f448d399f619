/-
  'FrameBounds' returns true for every input, and leaves what it is given as it was. No condition.
-/
import Derived.Test.YtfmkjckckekliaaFrame
import Derived.Test.YtfmkjckckekliaaFrN
namespace Go.Proofs.Ytfmkjckckekliaa.frameBounds
open Go.ChangeShapes Go.WideShapes Go.ChangeAt Go.RowKit Go.Proofs.Ytfmkjckckekliaa
set_option linter.unusedVariables false
set_option maxHeartbeats 1000000
set_option maxRecDepth 8000

theorem free_first (k : Nat) : ∃ suf, freeI ((k : Int) + 1) [] = 0 :: suf := by
  refine ⟨((List.range k).map Nat.succ).map fun (n : Nat) => (n : Int), ?_⟩
  unfold freeI freeK inF
  rw [show ((k : Int) + 1).toNat = k + 1 by omega, List.range_succ_eq_map]
  simp
theorem resv_one (M : Int) : resvI [(63, M)] 63 = M := rfl
theorem body (a : Int) (h0 : -9223372036854775808 ≤ a) (h1 : a ≤ 9223372036854775807) (w : World) : Calls Try.prog 3 #[.int .i64 a] w fun e w' => e = .returned (.bool true) ∧ Below w.heap.size w w' := by
  by_cases c1 : a < -1
  · go_enter Try.func3, Try.ntmps3
    go_wp2_with fail
    refine (works_ok _).mono ?_; rintro e w1 ⟨rfl, k⟩
    go_wp2_with fail
    go_ret
    exact ⟨rfl, k⟩
  · by_cases c2 : 1 < a
    · go_enter Try.func3, Try.ntmps3
      go_wp2_with fail
      refine (works_ok _).mono ?_; rintro e w1 ⟨rfl, k⟩
      go_wp2_with fail
      go_ret
      exact ⟨rfl, k⟩
    · have hadd : IntKind.i64.wrap (16384 + a) = 16384 + a := IntWalk.i64_in _ (by omega)
      by_cases c3 : 0 < a
      · go_enter Try.func3, Try.ntmps3
        go_wp2_with fail
        refine (New_no _ (Or.inr (by omega)) w).mono ?_; rintro e w1 ⟨rfl, k⟩
        go_wp2_with fail
        refine (num_calls _ _).mono ?_; rintro e W ⟨rfl, rfl⟩
        go_wp2_with fail
        refine (works_ok _).mono ?_; rintro e w2 ⟨rfl, k2⟩
        go_wp2_with fail
        go_ret
        exact ⟨rfl, k.trans (k2.mono k.size)⟩
      · obtain ⟨M, hM⟩ : ∃ M, 16384 + a = M := ⟨_, rfl⟩
        have m0 : 0 < M := by omega
        have m1 : M ≤ 16384 := by omega
        have m2 : 16383 ≤ M := by omega
        have s0 : Sound M [] [] := ⟨by omega, by omega, by simp, by simp, by simp, by simp; omega⟩
        have s1 : Sound M [] [(63, M)] := ⟨by omega, by omega, by simp, by simp, by simp; omega, by simp⟩
        have s2 : Sound M [(0, 63, zeros256)] [(63, M)] := ⟨by omega, by omega, fun x hx => by (obtain rfl := List.mem_singleton.1 hx); exact List.length_replicate, by simp, by simp; omega, by simp⟩
        have e1 : resErr M [] [] 63 M = 0 := by simp [resErr, badOwner, hasF, sumR, resvI]; omega
        have e2 : resAfter M [] [] 63 M = [(63, M)] := by unfold resAfter resNew; rw [if_pos e1, if_neg (by omega)]; rfl
        have e3 : resErr M [] [(63, M)] 0 1 = 170 := by simp [resErr, badOwner, hasF, sumR, resvI]
        have e4 : resAfter M [] [(63, M)] 0 1 = [(63, M)] := by unfold resAfter; rw [e3]; rfl
        have e5 : takErr [] [(63, M)] 63 = 0 := by simp [takErr, badOwner, hasF, resvI]; omega
        obtain ⟨suf, hs⟩ : ∃ suf, freeI M [] = 0 :: suf := by
          obtain ⟨k, rfl⟩ : ∃ k : Nat, M = (k : Int) + 1 := ⟨(M - 1).toNat, by omega⟩
          exact free_first k
        have e6 : takAt M [] [(63, M)] 63 = 0 := by unfold takAt; rw [if_pos e5, hs]; rfl
        have e7 : takAfter M [] [(63, M)] 63 = [(0, 63, zeros256)] := by unfold takAfter; rw [if_pos e5, hs]; rfl
        go_enter Try.func3, Try.ntmps3
        go_wp2_with fail
        refine (New_calls M (by omega) (by omega) w).mono ?_; rintro e W ⟨b, bf, br, rfl, hp, lf, lr, _, hb⟩
        have L : Live w W b bf br M [] [] := ⟨hp, hb, lf, lr⟩
        clear hp lf lr hb
        go_wp2_with fail
        refine (L.reserve s0 63 M 0 [(63, M)] e1 e2).mono ?_; clear L; (try clear W); rintro e W ⟨rfl, L⟩
        go_wp2_with fail
        refine (L.reserve s1 0 1 170 [(63, M)] e3 e4).mono ?_; clear L; (try clear W); rintro e W ⟨rfl, L⟩
        go_wp2_with fail
        refine (L.take s1 63 0 0 [(0, 63, zeros256)] (fun _ => ⟨_, _, hs⟩) e6 e5 e7).mono ?_; clear L; (try clear W); rintro e W ⟨rfl, L⟩
        go_wp2_with fail
        refine (num_calls _ _).mono ?_; rintro e _ ⟨rfl, rfl⟩
        go_wp2_with fail
        refine (num_calls _ _).mono ?_; rintro e _ ⟨rfl, rfl⟩
        go_wp2_with fail
        refine (num_calls _ _).mono ?_; rintro e _ ⟨rfl, rfl⟩
        go_wp2_with fail
        refine (num_calls _ _).mono ?_; rintro e _ ⟨rfl, rfl⟩
        go_wp2_with fail
        refine (Room_calls L.pool s2).mono ?_; rintro e X ⟨rfl, k⟩
        rw [show M - sumR [(63, M)] = 0 by simp [sumR]]
        replace L := L.step k
        clear k
        go_wp2_with fail
        refine (works_ok _).mono ?_; rintro e w2 ⟨rfl, k2⟩
        go_wp2_with fail
        go_ret
        exact ⟨rfl, L.bel.trans (k2.mono L.bel.size)⟩


theorem walk (H : Type) (enc : TypeId × Value → H) (W : World) (base : Nat) (args : Array Value) (ds : List (DataW H)) (p : List MemPlace)
    (hval : ∀ (j : Nat) t v, Try.f3.params[j]? = some t → args[j]? = some v → Value.okWide Try.prog W .any base t v)
    (hA : DataW.TrodAll enc Try.prog W 0 (fun _ => true) true Try.f3.params.toList args.toList ds p) (hlt : ∀ x ∈ p, x.block < W.heap.size) :
    Calls Try.prog 3 args W (fun e W' => e = .returned (.bool true) ∧ Below W.heap.size W W') ∧ ∃ d0, ds = [d0] := by
  rw [Try.params3] at hA hval
  obtain ⟨v0, vs0, d0, ds0, p0, q0, hargs, rfl, rfl, h0, r0⟩ := trodAll_cons hA
  obtain ⟨rfl, rfl, rfl⟩ := trodAll_nil r0
  obtain rfl : args = #[v0] := by cases args; simp_all
  obtain ⟨a0, rfl, rfl, rfl, w0⟩ := open_int Try.underlying3 (hval 0 3 v0 rfl rfl) h0
  have b0 := i64_bd w0
  exact ⟨body a0 b0.1 b0.2 W, _, rfl⟩

theorem own : ownKnob Try.prog.godebug = none := by kernel_rfl
set_option maxRecDepth 100000 in
theorem lifted (os : Os) (started : os.Started) (H : Type) (enc : TypeId × Value → H) :
    ReturnsInHanded {} Try.checked os 3 .any (Rows.frameBoundsSpec.pre6 enc Try.prog Try.f3 Rows.frameBoundsRow.domain false) (Rows.frameBoundsSpec.post enc Try.prog Try.f3 false true false false) := by
  refine returnsInHanded_of_change (C := Try.checked) own started (by kernel_rfl) Try.func3
    (ChangeSpec.witness6 (enc := enc) (C := Try.checked) false ⟨#[], #[.int .i64 0], []⟩ 8 (by kernel_rfl) (by kernel_rfl) (by kernel_rfl) (by kernel_rfl)) ?_
  intro W base args ds gs before hval hW hcnd _
  have hW' := hW
  obtain ⟨p, q, hA, hV, rfl, hfz, hnd⟩ := hW
  obtain ⟨rfl, rfl⟩ := trodVars_none hV
  have hlt : ∀ x ∈ p, x.block < W.heap.size := fun x hx => hW'.lt x (List.mem_append_left _ hx)
  obtain ⟨hc, d0, rfl⟩ := walk H enc W base args ds p hval hA hlt
  refine hc.mono fun e W' ⟨he, hb⟩ => ?_
  subst he
  exact ⟨_, rfl, law_post (by kernel_rfl) (by kernel_rfl) rfl (by kernel_rfl) rfl rfl rfl rfl hW' hA hlt hb⟩

theorem over : Rows.frameBoundsRow.holds Try.pinned (OpenSpec.ofChange Rows.frameBoundsSpec) :=
  OpenClaim.holds_of_wide 3 Try.f3 rfl rfl rfl rfl rfl rfl rfl ⟨rfl, rfl, rfl, rfl, rfl⟩ rfl rfl rfl rfl rfl (by kernel_rfl) Try.func3 (by kernel_rfl)
    (of_decide_eq_true (by kernel_rfl)) (by unfold Func.isWrapper; first | (rw [if_pos (by decide +kernel)]; kernel_rfl) | (rw [if_neg (by decide +kernel)]; exact ⟨rfl, rfl⟩))
    (fun os started H enc _ => lifted os started H enc)

theorem proved : Rows.FrameBoundsSaid :=
  over

end Go.Proofs.Ytfmkjckckekliaa.frameBounds
