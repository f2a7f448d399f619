/-
  'MixStreams' returns true for every input, and leaves what it is given as it was. No condition.
-/
import Derived.Test.YtpklmjdcplpgeaaFrame
import Derived.Test.YtpklmjdcplpgeaaMixS
namespace Go.Proofs.Ytpklmjdcplpgeaa.mixStreams
open Go.ChangeShapes Go.WideShapes Go.ChangeAt Go.RowKit Go.Proofs.Ytpklmjdcplpgeaa
set_option linter.unusedVariables false
set_option maxHeartbeats 400000

theorem small (key many most : Int) (hk : 0 ≤ key) (hk' : key < 18446744073709551616) (hmin : -9223372036854775808 ≤ many) (hm : many ≤ 300) (h1 : 1 ≤ most) (h3 : most ≤ 300) (w : World) :
    Calls Try.prog 7 #[.int .u64 key, .int .i64 many, .int .i64 most] w fun e w' => e = .returned (.bool true) ∧ Below w.heap.size w w' := by
  have t1 : ¬ 300 < many := by omega
  have t2 : ¬ most < 1 := by omega
  have t3 : ¬ 300 < most := by omega
  go_enter Try.func7, Try.ntmps7
  go_wp2_with fail
  refine (stream_ok key many most hm h1 h3 _).mono ?_; rintro e w1 ⟨v, rfl, ho, hb1⟩
  have hz1 := hb1.size
  obtain ⟨l, hl⟩ : ∃ l, (streamI key many).take most.toNat = l := ⟨_, rfl⟩
  rw [hl] at ho
  have hlen : (l.length : Int) = min (max 0 many) most := by rw [← hl]; simp [streamI_len]; omega
  have hget : ∀ (k : Nat) (h : k < l.length), l[k] = mixI key k := by
    subst hl; intro k h; rw [List.getElem_take, streamI_get]
  have hl3 : l.length ≤ 300 := by omega
  have HL := Lib.hid (show ((l.length : Int) == min (max 0 many) most) = true by rw [hlen]; simp)
  clear hlen hl
  have hr : RowAt w1.heap.size w1 v l.length (intVals .u64 l) := RowAt.of_owns ho (Nat.le_refl _)
  clear ho
  obtain ⟨ad, cap, rfl, _, hrow⟩ := hr
  go_wp2_with fail
  go_loopw [8] (fun i wr => ∃ k : Nat, k ≤ l.length ∧ i = .int .i64 k ∧ Below w1.heap.size w1 wr) (fun i _ => l.length - (intOf i).toNat)
  case atStart => exact ⟨0, by omega, rfl, Below.refl _ _⟩
  case round =>
    obtain ⟨k, hkk, rfl, hb⟩ := hrel
    have hz := hb.size
    by_cases hlt : k < l.length
    · rcases hrow with h0 | ⟨b, off, rfl, hbB, hc⟩
      · exfalso; have := congrArg List.length h0; simp [intVals] at this; subst this; simp at hlt
      have hck : wr.cell? ⟨b, off + k, none⟩ = some (.int .u64 (mixI key k)) := by
        rw [hb.cell (p := ⟨b, off + k, none⟩) (by dsimp only; omega), hc k (by simpa [intVals] using hlt), intVals_get _ _ _ hlt, hget]
      clear hc
      have i0 : (0 : Int) ≤ k := by omega
      have i1 : (k : Int) < l.length := by omega
      go_wp2_with fail
      go_quiet ((go_at_call 15; exact quiet_same (rMix_ok _ _ hk hk' (by omega) (by omega) _)))
      go_wp2_with fail
      go_roundw
      case rel => exact ⟨k + 1, by omega, by go_num, hb.drewN _⟩
      case measure => simp [intOf]; omega
    · obtain rfl : k = l.length := by omega
      have HL' := HL.out
      clear hrow hget HL hkk hlt
      revert HL' hl3
      generalize l.length = n
      intro hl3 HL'
      have HL := Lib.hid HL'
      clear HL'
      go_wp2_with fail
      all_goals
        first
          | (exfalso; have HL' := HL.out; simp only [beq_iff_eq] at HL'; omega)
          | (refine (works_ok _).mono ?_
             rintro e w5 ⟨rfl, hb5⟩
             go_wp2_with fail
             go_ret
             exact ⟨rfl, (hb1.trans (hb.mono hz1)).trans (hb5.mono (by omega))⟩)

theorem big (key many most : Int) (h : 300 < many ∨ most < 1 ∨ 300 < most) (w : World) :
    Calls Try.prog 7 #[.int .u64 key, .int .i64 many, .int .i64 most] w fun e w' => e = .returned (.bool true) ∧ Below w.heap.size w w' := by
  by_cases t1 : 300 < many
  · clear h
    go_enter Try.func7, Try.ntmps7
    go_wp2_with fail
    refine (works_ok _).mono ?_; rintro e w5 ⟨rfl, hb5⟩
    go_wp2_with fail
    go_ret
    exact ⟨rfl, hb5⟩
  · by_cases t2 : most < 1
    · clear h
      go_enter Try.func7, Try.ntmps7
      go_wp2_with fail
      refine (works_ok _).mono ?_; rintro e w5 ⟨rfl, hb5⟩
      go_wp2_with fail
      go_ret
      exact ⟨rfl, hb5⟩
    · have t3 : 300 < most := by omega
      clear h
      go_enter Try.func7, Try.ntmps7
      go_wp2_with fail
      refine (works_ok _).mono ?_; rintro e w5 ⟨rfl, hb5⟩
      go_wp2_with fail
      go_ret
      exact ⟨rfl, hb5⟩

theorem walk (H : Type) (enc : TypeId × Value → H) (W : World) (base : Nat) (args : Array Value) (ds : List (DataW H)) (p : List MemPlace)
    (hval : ∀ (j : Nat) t v, Try.f7.params[j]? = some t → args[j]? = some v → Value.okWide Try.prog W .any base t v)
    (hA : DataW.TrodAll enc Try.prog W 0 (fun _ => true) true Try.f7.params.toList args.toList ds p) (hlt : ∀ x ∈ p, x.block < W.heap.size) :
    Calls Try.prog 7 args W (fun e W' => e = .returned (.bool true) ∧ Below W.heap.size W W') ∧ ∃ d0 d1 d2, ds = [d0, d1, d2] := by
  rw [Try.params7] at hA hval
  obtain ⟨v0, vs0, d0, ds0, p0, q0, hargs, rfl, rfl, h0, r0⟩ := trodAll_cons hA
  obtain ⟨v1, vs1, d1, ds1, p1, q1, rfl, rfl, rfl, h1, r1⟩ := trodAll_cons r0
  obtain ⟨v2, vs2, d2, ds2, p2, q2, rfl, rfl, rfl, h2, r2⟩ := trodAll_cons r1
  obtain ⟨rfl, rfl, rfl⟩ := trodAll_nil r2
  obtain rfl : args = #[v0, v1, v2] := by cases args; simp_all
  obtain ⟨key, rfl, rfl, rfl, wk⟩ := open_int Try.underlying23 (hval 0 23 v0 rfl rfl) h0
  obtain ⟨many, rfl, rfl, rfl, wm⟩ := open_int Try.underlying3 (hval 1 3 v1 rfl rfl) h1
  obtain ⟨most, rfl, rfl, rfl, wo⟩ := open_int Try.underlying3 (hval 2 3 v2 rfl rfl) h2
  refine ⟨?_, _, _, _, rfl⟩
  have bk := u64_bd wk
  have bm := i64_bd wm
  by_cases h : 300 < many ∨ most < 1 ∨ 300 < most
  · exact big key many most h W
  · exact small key many most bk.1 bk.2 bm.1 (by omega) (by omega) (by omega) W

theorem own : ownKnob Try.prog.godebug = none := by kernel_rfl
set_option maxRecDepth 100000 in
theorem lifted (os : Os) (started : os.Started) (H : Type) (enc : TypeId × Value → H) :
    ReturnsInHanded {} Try.checked os 7 .any (Rows.mixStreamsSpec.pre6 enc Try.prog Try.f7 Rows.mixStreamsRow.domain false) (Rows.mixStreamsSpec.post enc Try.prog Try.f7 false true false false) := by
  refine returnsInHanded_of_change (C := Try.checked) own started (by kernel_rfl) Try.func7
    (ChangeSpec.witness6 (enc := enc) (C := Try.checked) false ⟨#[], #[.int .u64 0, .int .i64 0, .int .i64 0], []⟩ 8 (by kernel_rfl) (by kernel_rfl) (by kernel_rfl) (by kernel_rfl)) ?_
  intro W base args ds gs before hval hW hcnd _
  have hW' := hW
  obtain ⟨p, q, hA, hV, rfl, hfz, hnd⟩ := hW
  obtain ⟨rfl, rfl⟩ := trodVars_none hV
  have hlt : ∀ x ∈ p, x.block < W.heap.size := fun x hx => hW'.lt x (List.mem_append_left _ hx)
  obtain ⟨hc, d0, d1, d2, rfl⟩ := walk H enc W base args ds p hval hA hlt
  refine hc.mono fun e W' ⟨he, hb⟩ => ?_
  subst he
  exact ⟨_, rfl, law_post (by kernel_rfl) (by kernel_rfl) rfl (by kernel_rfl) rfl rfl rfl rfl hW' hA hlt hb⟩

theorem over : Rows.mixStreamsRow.holds Try.pinned (OpenSpec.ofChange Rows.mixStreamsSpec) :=
  OpenClaim.holds_of_wide 7 Try.f7 rfl rfl rfl rfl rfl rfl rfl ⟨rfl, rfl, rfl, rfl, rfl⟩ rfl rfl rfl rfl rfl (by kernel_rfl) Try.func7 (by kernel_rfl)
    (of_decide_eq_true (by kernel_rfl)) (by unfold Func.isWrapper; first | (rw [if_pos (by decide +kernel)]; kernel_rfl) | (rw [if_neg (by decide +kernel)]; exact ⟨rfl, rfl⟩))
    (fun os started H enc _ => lifted os started H enc)

theorem proved : Rows.MixStreamsSaid :=
  over

end Go.Proofs.Ytpklmjdcplpgeaa.mixStreams
