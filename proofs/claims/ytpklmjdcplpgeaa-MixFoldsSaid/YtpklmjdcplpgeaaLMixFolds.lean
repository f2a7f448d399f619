/-
  'MixFolds' returns true for every input, and leaves what it is given as it was. No condition.
-/
import Derived.Test.YtpklmjdcplpgeaaFrame
import Derived.Test.YtpklmjdcplpgeaaMixQ
namespace Go.Proofs.Ytpklmjdcplpgeaa.mixFolds
open Go.ChangeShapes Go.WideShapes Go.ChangeAt Go.RowKit Go.Proofs.Ytpklmjdcplpgeaa
set_option linter.unusedVariables false
set_option maxHeartbeats 400000

theorem info64 : ElemInfo Try.prog 23 (.int .u64 0) 1 8 := elemInfo_of (by kernel_rfl) rfl (by decide)

theorem small (v : Value) (l : List Int) (hlw : ∀ x ∈ l, 0 ≤ x ∧ x < 18446744073709551616) (w : World) (hl : l.length ≤ 100) (hv : RowAt w.heap.size w v l.length (intVals .u64 l)) :
    Calls Try.prog 5 #[v] w fun e w' => e = .returned (.bool true) ∧ Below w.heap.size w w' := by
  obtain ⟨ad, cap, rfl, hcap, hrow⟩ := id hv
  have hil : (intVals .u64 l).length = l.length := by simp [intVals]
  have HIL := Lib.hid hil
  clear hil
  go_enter Try.func5, Try.ntmps5
  go_wp2_with (at_builtin; refine wpList_append_row rfl _ _ 36 rfl w.heap.size Try.underlying36 info64 0 [] rfl ?c1 w.heap.size l.length (intVals .u64 l) rfl ?c2 ?c3 ?c4 ?c5 ?c6 ?c7 ?_)
  case c1 => exact World.ownsRow_made w #[] 0 (Nat.le_refl _) (by decide) rfl
  case c2 => exact hv.below ((Below.refl _ w).alloc (Nat.le_refl _) _) (Nat.le_refl _)
  case c3 => rw [HIL.out]; omega
  case c4 => intro u hu; simp only [intVals, List.mem_map] at hu; obtain ⟨x, _, rfl⟩ := hu; rfl
  case c5 => unfold maxLen; omega
  case c6 => omega
  case c7 => simp
  intro v1 w1 ho1 hg1
  have hb1 : Below w.heap.size w w1 := ((Below.refl _ w).alloc (Nat.le_refl _) _).grown hg1 (by simp) (fun k e => by cases e; exact Nat.le_refl _)
  have hz1 := hb1.size
  clear hg1
  go_wp2_with (at_builtin; refine wpList_append_row rfl _ _ 36 rfl w.heap.size Try.underlying36 info64 l.length (intVals .u64 l) rfl ?c1 (w1.heap.size + 1) 1 [.int .u64 77] rfl ?c2 ?c3 ?c4 ?c5 ?c6 ?c7 ?_)
  case c1 => exact ho1.alloc _
  case c2 => exact RowAt.lit w1 #[.int .u64 77] 23 1 _ (by omega)
  case c3 => rfl
  case c4 => intro u hu; simp at hu; subst hu; rfl
  case c5 => unfold maxLen; omega
  case c6 => omega
  case c7 => simp; omega
  intro v2 w2 ho2 hg2
  obtain ⟨g, cp, rfl⟩ := ownsRow_succ ho2
  have hb2 : Below w.heap.size w w2 := (hb1.alloc hz1 _).appended (ho1.alloc _) hg2 (Nat.le_refl _) (by simp; omega)
  have hz2 := hb2.size
  clear hg2
  obtain ⟨hg0, hg1, hg2, hg3⟩ := owns_slice ho2
  have hm : RowAt w2.heap.size w2 (.slice (some ⟨g, 0, none⟩) l.length cp) l.length (intVals .u64 l) := RowAt.of_take ho2 (Nat.le_refl _) _ (by omega) rfl
  have i0 : ((l.length : Nat) : Int) ≤ (cp : Int) := by omega
  go_wp2_with fail
  refine (Fold_ok _ l _ _ (Nat.le_refl _) (by omega) hm).mono ?_; rintro e w3 ⟨rfl, hb3⟩
  have hz3 := hb3.size
  go_wp2_with fail
  go_loopw [5] (fun i wr => ∃ k : Nat, k ≤ l.length ∧ i = .int .i64 k ∧ Below w3.heap.size w3 wr) (fun i _ => l.length - (intOf i).toNat)
  case atStart => exact ⟨0, by omega, rfl, Below.refl _ _⟩
  case round =>
    obtain ⟨k, hk, rfl, hb⟩ := hrel
    have hz := hb.size
    have hmr := (hm.below hb3 (Nat.le_refl _)).below hb hz3
    have hlr := ((hv.below hb2 (Nat.le_refl _)).below hb3 hz2).below hb (by omega)
    by_cases hlt : k < l.length
    · have hx : (intVals .u64 l)[k]? = some (.int .u64 l[k]) := intVals_get _ _ _ hlt
      have hne : k < (intVals .u64 l).length := by rw [HIL.out]; exact hlt
      obtain ⟨_, _, e1, _, (h0 | ⟨b1, o1, rfl, _, hc1⟩)⟩ := hmr
      · rw [h0] at hne; simp at hne
      obtain ⟨_, _, e2, _, (h0 | ⟨b2, o2, rfl, _, hc2⟩)⟩ := hlr
      · rw [h0] at hne; simp at hne
      simp only [Value.slice.injEq, Option.some.injEq, Addr.mk.injEq, and_true, true_and] at e1 e2
      obtain ⟨⟨rfl, rfl⟩, rfl⟩ := e1
      obtain ⟨rfl, rfl⟩ := e2
      have c1 := (hc1 k hne).trans hx
      have c2 := (hc2 k hne).trans hx
      rw [Nat.zero_add] at c1
      clear hc1 hc2 hx hne
      have i1 : (0 : Int) ≤ k := by omega
      have i2 : (k : Int) < l.length := by omega
      go_wp2_with fail
      go_quiet (fail)
      go_wp2_with fail
      go_roundw
      case rel => exact ⟨k + 1, by omega, by go_num, hb.drewN _⟩
      case measure => simp [intOf]; omega
    · obtain rfl : k = l.length := by omega
      have hc77 : wr.cell? ⟨g, l.length, none⟩ = some (.int .u64 77) := by
        have h1 := hb3.cell (p := ⟨g, l.length, none⟩) (by dsimp only; omega)
        have h2 := hb.cell (p := ⟨g, l.length, none⟩) (by dsimp only; omega)
        rw [h2, h1, ho2.cellAt _ (by omega), List.getElem?_append_right (by rw [HIL.out]; omega), HIL.out]
        simp
      go_wp2_with fail
      refine (rFold_ok _ l hlw _ _ (by omega) (by omega) hlr).mono ?_; rintro e w4 ⟨rfl, hb4⟩
      have hz4 := hb4.size
      have hc77' : w4.cell? ⟨g, l.length, none⟩ = some (.int .u64 77) := (hb4.cell (p := ⟨g, l.length, none⟩) (by dsimp only; omega)).trans hc77
      have i1 : ((l.length : Nat) : Int) + 1 ≤ (cp : Int) := by omega
      go_wp2_with fail
      refine (works_ok _).mono ?_; rintro e w5 ⟨rfl, hb5⟩
      go_wp2_with fail
      go_ret
      exact ⟨rfl, (((hb2.trans (hb3.mono hz2)).trans (hb.mono (by omega))).trans (hb4.mono (by omega))).trans (hb5.mono (by omega))⟩

theorem big (v : Value) (l : List Int) (w : World) (hl : 100 < l.length) (hv : RowAt w.heap.size w v l.length (intVals .u64 l)) :
    Calls Try.prog 5 #[v] w fun e w' => e = .returned (.bool true) ∧ Below w.heap.size w w' := by
  obtain ⟨ad, cap, rfl, hcap, hrow⟩ := id hv
  clear hrow hv
  go_enter Try.func5, Try.ntmps5
  go_wp2_with fail
  refine (works_ok _).mono ?_; rintro e w5 ⟨rfl, hb5⟩
  go_wp2_with fail
  go_ret
  exact ⟨rfl, hb5⟩

theorem walk (H : Type) (enc : TypeId × Value → H) (W : World) (base : Nat) (args : Array Value) (ds : List (DataW H)) (p : List MemPlace)
    (hval : ∀ (j : Nat) t v, Try.f5.params[j]? = some t → args[j]? = some v → Value.okWide Try.prog W .any base t v)
    (hA : DataW.TrodAll enc Try.prog W 0 (fun _ => true) true Try.f5.params.toList args.toList ds p) (hlt : ∀ x ∈ p, x.block < W.heap.size) :
    Calls Try.prog 5 args W (fun e W' => e = .returned (.bool true) ∧ Below W.heap.size W W') ∧ ∃ d0, ds = [d0] := by
  rw [Try.params5] at hA hval
  obtain ⟨v0, vs0, d0, ds0, p0, q0, hargs, rfl, rfl, h0, r0⟩ := trodAll_cons hA
  obtain ⟨rfl, rfl, rfl⟩ := trodAll_nil r0
  obtain rfl : args = #[v0] := by cases args; simp_all
  obtain ⟨l, hrow, hw, _⟩ := open_row Try.underlying36 Try.underlying23 (by kernel_rfl) (hval 0 36 v0 rfl rfl) h0
  refine ⟨?_, _, rfl⟩
  by_cases hl : l.length ≤ 100
  · exact small v0 l (fun x hx => u64_bd (hw x hx)) W hl hrow
  · exact big v0 l W (by omega) hrow

theorem own : ownKnob Try.prog.godebug = none := by kernel_rfl
set_option maxRecDepth 100000 in
theorem lifted (os : Os) (started : os.Started) (H : Type) (enc : TypeId × Value → H) :
    ReturnsInHanded {} Try.checked os 5 .any (Rows.mixFoldsSpec.pre6 enc Try.prog Try.f5 Rows.mixFoldsRow.domain false) (Rows.mixFoldsSpec.post enc Try.prog Try.f5 false true false false) := by
  refine returnsInHanded_of_change (C := Try.checked) own started (by kernel_rfl) Try.func5
    (ChangeSpec.witness6 (enc := enc) (C := Try.checked) false ⟨#[], #[.slice none 0 0], []⟩ 8 (by kernel_rfl) (by kernel_rfl) (by kernel_rfl) (by kernel_rfl)) ?_
  intro W base args ds gs before hval hW hcnd _
  have hW' := hW
  obtain ⟨p, q, hA, hV, rfl, hfz, hnd⟩ := hW
  obtain ⟨rfl, rfl⟩ := trodVars_none hV
  have hlt : ∀ x ∈ p, x.block < W.heap.size := fun x hx => hW'.lt x (List.mem_append_left _ hx)
  obtain ⟨hc, d0, rfl⟩ := walk H enc W base args ds p hval hA hlt
  refine hc.mono fun e W' ⟨he, hb⟩ => ?_
  subst he
  exact ⟨_, rfl, law_post (by kernel_rfl) (by kernel_rfl) rfl (by kernel_rfl) rfl rfl rfl rfl hW' hA hlt hb⟩

theorem over : Rows.mixFoldsRow.holds Try.pinned (OpenSpec.ofChange Rows.mixFoldsSpec) :=
  OpenClaim.holds_of_wide 5 Try.f5 rfl rfl rfl rfl rfl rfl rfl ⟨rfl, rfl, rfl, rfl, rfl⟩ rfl rfl rfl rfl rfl (by kernel_rfl) Try.func5 (by kernel_rfl)
    (of_decide_eq_true (by kernel_rfl)) (by unfold Func.isWrapper; first | (rw [if_pos (by decide +kernel)]; kernel_rfl) | (rw [if_neg (by decide +kernel)]; exact ⟨rfl, rfl⟩))
    (fun os started H enc _ => lifted os started H enc)

theorem proved : Rows.MixFoldsSaid :=
  over

end Go.Proofs.Ytpklmjdcplpgeaa.mixFolds
