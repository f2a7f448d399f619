/-
  'WindowRegions' returns true for every input, and leaves what it is given as it was. No condition.
-/
import Derived.Test.YtcgdipkmcgionaaFrame
import Derived.Test.YtcgdipkmcgionaaWinR
import Derived.ChangeKeysEq
import Derived.Laws.StructEq
namespace Go.Proofs.Ytcgdipkmcgionaa.windowRegions
open Go.ChangeShapes Go.WideShapes Go.ChangeAt Go.RowKit Go.Proofs.Ytcgdipkmcgionaa
set_option linter.unusedVariables false
set_option maxHeartbeats 1000000

theorem infoI : ElemInfo Try.prog 3 (.int .i64 0) 1 8 := elemInfo_of (by kernel_rfl) rfl (by decide)
theorem eqArr2 (x y : Int) (W : World) : (Op.equalIn 10000 49 (.agg #[.int .i64 x, .int .i64 y]) (.agg #[.int .i64 x, .int .i64 y])).run Try.prog W = .ok true W := by
  obtain ⟨i, hi, hz, hsize, _⟩ := infoI
  have hc : Try.prog.cellsOf 3 = 1 := by kernel_rfl
  have hu := Try.underlying49
  rw [run_equalIn_array (w := W) 9999 _ _ hu hi, hc]
  have hr : List.range 2 = [0, 1] := rfl
  have h1 := fun (a b : Int) (W : World) => run_equalIn_int (P := Try.prog) W 9998 3 .i64 .i64 a b Try.underlying3
  simp [Op.eqItems, hr, part, sizeOf, typeInfo, hi, hsize, h1, go_sem]
theorem pairs_get (s : Int) : ∀ (l : List Int) (i : Nat) (h : i < l.length), (pairsV s l)[i * 2]? = some (.int .i64 l[i]) ∧ (pairsV s l)[i * 2 + 1]? = some (.int .i64 (regI s l[i])) := by
  intro l
  induction l with
  | nil => intro i h; cases h
  | cons c l ih =>
    intro i h
    cases i with
    | zero => exact ⟨rfl, rfl⟩
    | succ i =>
      have := ih i (by simpa using h)
      rw [show (i + 1) * 2 = i * 2 + 2 by omega]
      simpa [pairsV] using this
theorem pairs_len (s : Int) (l : List Int) : (pairsV s l).length = l.length * 2 := by
  induction l with
  | nil => rfl
  | cons c l ih => simp [pairsV, ih]; omega
theorem big (s many : Int) (h : many < 1 ∨ 20 < many) (w : World) : Calls Try.prog 7 #[.int .i64 s, .int .i64 many] w fun e w' => e = .returned (.bool true) ∧ Below w.heap.size w w' := by
  have k := Below.refl w.heap.size w
  by_cases t1 : many < 1
  · clear h
    go_enter Try.func7, Try.ntmps7
    go_wp2_with fail
    refine (works_ok _).mono ?_; rintro e w1 ⟨rfl, h⟩
    replace k := k.trans (h.mono k.size); clear h
    go_wp2_with fail
    go_ret
    exact ⟨rfl, k⟩
  · have t2 : 20 < many := by omega
    clear h
    go_enter Try.func7, Try.ntmps7
    go_wp2_with fail
    refine (works_ok _).mono ?_; rintro e w1 ⟨rfl, h⟩
    replace k := k.trans (h.mono k.size); clear h
    go_wp2_with fail
    go_ret
    exact ⟨rfl, k⟩
theorem no (s many : Int) (h1 : 1 ≤ many) (h2 : many ≤ 20) (hs : slotI s = false) (w : World) : Calls Try.prog 7 #[.int .i64 s, .int .i64 many] w fun e w' => e = .returned (.bool true) ∧ Below w.heap.size w w' := by
  have k := Below.refl w.heap.size w
  have t1 : ¬ many < 1 := by omega
  have t2 : ¬ 20 < many := by omega
  go_enter Try.func7, Try.ntmps7
  go_wp2_with fail
  refine (regions_ok s many h1 h2 _).mono ?_; rintro e w1 ⟨v, rfl, ho, h⟩
  replace k := k.trans (h.mono k.size); clear h
  have hcl : clsI s = [] := by unfold clsI; rw [if_neg (by rw [hs]; decide)]
  rw [hcl] at ho
  simp only [List.take_nil, List.length_nil] at ho
  have hr : RowAt w1.heap.size w1 v 0 [] := RowAt.of_owns ho (Nat.le_refl _)
  obtain ⟨ad, cap, rfl, _, _⟩ := hr
  clear ho hcl
  go_wp2_with fail
  refine (Slot_calls s _).mono ?_; rintro e w1 ⟨rfl, rfl⟩
  rw [hs]
  go_wp2_with fail
  refine (works_ok _).mono ?_; rintro e w1 ⟨rfl, h⟩
  replace k := k.trans (h.mono k.size); clear h
  go_wp2_with fail
  go_ret
  exact ⟨rfl, k⟩
theorem yes (s many : Int) (h1 : 1 ≤ many) (h2 : many ≤ 20) (hs : slotI s = true) (w : World) : Calls Try.prog 7 #[.int .i64 s, .int .i64 many] w fun e w' => e = .returned (.bool true) ∧ Below w.heap.size w w' := by
  have t1 : ¬ many < 1 := by omega
  have t2 : ¬ 20 < many := by omega
  go_enter Try.func7, Try.ntmps7
  go_wp2_with fail
  refine (regions_ok s many h1 h2 _).mono ?_; rintro e w1 ⟨v, rfl, ho, hb1⟩
  have hz1 := hb1.size
  have hcl : clsI s = [0, 1, 2, 3, 4, 5, 6, 7] := by unfold clsI; rw [if_pos hs]
  rw [hcl] at ho
  obtain ⟨l, hl⟩ : ∃ l, ([0, 1, 2, 3, 4, 5, 6, 7] : List Int).take many.toNat = l := ⟨_, rfl⟩
  rw [hl] at ho
  have hlen : (l.length : Int) = min 8 many := by rw [← hl]; simp; omega
  have hget : ∀ (k : Nat) (h : k < l.length), l[k] = (k : Int) := by
    subst hl; intro k h; rw [List.getElem_take, cls_get]
  have hl3 : l.length ≤ 8 := by omega
  have HL := Lib.hid (show ((l.length : Int) == min 8 many) = true by rw [hlen]; simp)
  clear hlen hl hcl
  have hr : RowAt w1.heap.size w1 v l.length (pairsV s l) := RowAt.of_owns ho (Nat.le_refl _)
  clear ho
  obtain ⟨ad, cap, rfl, _, hrow⟩ := hr
  go_wp2_with fail
  refine (Slot_calls s _).mono ?_; rintro e w' ⟨rfl, rfl⟩
  rw [hs]
  go_wp2_with fail
  go_loopw [6] (fun i wr => ∃ k : Nat, k ≤ l.length ∧ i = .int .i64 k ∧ Below w1.heap.size w1 wr) (fun i _ => l.length - (intOf i).toNat)
  case atStart => exact ⟨0, by omega, rfl, Below.refl _ _⟩
  case round =>
    obtain ⟨k, hkk, rfl, hb⟩ := hrel
    have hz := hb.size
    by_cases hlt : k < l.length
    · have hpl := pairs_len s l
      rcases hrow with h0 | ⟨b, off, rfl, hbB, hc⟩
      · exfalso; have := congrArg List.length h0; rw [hpl] at this; simp at this; omega
      obtain ⟨q0, q1⟩ := pairs_get s l k hlt
      have l0 : k * 2 < (pairsV s l).length := by omega
      have l1 : k * 2 + 1 < (pairsV s l).length := by omega
      have hck0 : wr.cell? ⟨b, off + k * 2, none⟩ = some (.int .i64 k) := by
        rw [hb.cell (p := ⟨b, off + k * 2, none⟩) (by dsimp only; omega), hc (k * 2) l0]; exact q0.trans (by rw [hget])
      have hck1 : wr.cell? ⟨b, off + k * 2 + 1, none⟩ = some (.int .i64 (4096 * (s + 1) + 1 + 17 * k)) := by
        rw [show off + k * 2 + 1 = off + (k * 2 + 1) from rfl, hb.cell (p := ⟨b, off + (k * 2 + 1), none⟩) (by dsimp only; omega), hc (k * 2 + 1) l1]; exact q1.trans (by rw [hget]; rfl)
      clear hc q0 q1 l0 l1 hpl
      have i0 : (0 : Int) ≤ k := by omega
      have i1 : (k : Int) < l.length := by omega
      have hq := eqArr2 k (4096 * (s + 1) + 1 + 17 * k)
      have hc8 : inI 8 k = true := by simp [inI]; omega
      go_wp2_with fail
      go_quiet ((go_at_call 18; exact quiet_same (rRegion_calls s k hs hc8 _)))
      go_wp2_with fail
      go_roundw
      case rel => exact ⟨k + 1, by omega, by go_num, hb.drewN _⟩
      case measure => simp [intOf]; omega
    · obtain rfl : k = l.length := by omega
      have HL' := HL.out
      clear hrow hget HL hkk hlt
      revert HL' hl3
      generalize l.length = n
      intro hl3 HL'
      have HL := Lib.hid HL'
      clear HL'
      go_wp2_with fail
      all_goals
        first
          | (exfalso; have HL' := HL.out; simp only [beq_iff_eq] at HL'; omega)
          | (refine (works_ok _).mono ?_
             rintro e w5 ⟨rfl, hb5⟩
             go_wp2_with fail
             go_ret
             exact ⟨rfl, (hb1.trans (hb.mono hz1)).trans (hb5.mono (by omega))⟩)
theorem body (s many : Int) (_ : -9223372036854775808 ≤ s) (_ : s ≤ 9223372036854775807) (_ : -9223372036854775808 ≤ many) (_ : many ≤ 9223372036854775807) (w : World) : Calls Try.prog 7 #[.int .i64 s, .int .i64 many] w fun e w' => e = .returned (.bool true) ∧ Below w.heap.size w w' := by
  by_cases h : many < 1 ∨ 20 < many
  · exact big s many h w
  by_cases hs : slotI s = true
  · exact yes s many (by omega) (by omega) hs w
  · exact no s many (by omega) (by omega) (by simpa using hs) w

theorem walk (H : Type) (enc : TypeId × Value → H) (W : World) (base : Nat) (args : Array Value) (ds : List (DataW H)) (p : List MemPlace)
    (hval : ∀ (j : Nat) t v, Try.f7.params[j]? = some t → args[j]? = some v → Value.okWide Try.prog W .any base t v)
    (hA : DataW.TrodAll enc Try.prog W 0 (fun _ => true) true Try.f7.params.toList args.toList ds p) (hlt : ∀ x ∈ p, x.block < W.heap.size) :
    Calls Try.prog 7 args W (fun e W' => e = .returned (.bool true) ∧ Below W.heap.size W W') ∧ ∃ d0 d1, ds = [d0, d1] := by
  rw [Try.params7] at hA hval
  obtain ⟨v0, vs0, d0, ds0, p0, q0, hargs, rfl, rfl, h0, r0⟩ := trodAll_cons hA
  obtain ⟨v1, vs1, d1, ds1, p1, q1, rfl, rfl, rfl, h1, r1⟩ := trodAll_cons r0
  obtain ⟨rfl, rfl, rfl⟩ := trodAll_nil r1
  obtain rfl : args = #[v0, v1] := by cases args; simp_all
  obtain ⟨a0, rfl, rfl, rfl, w0⟩ := open_int Try.underlying3 (hval 0 3 v0 rfl rfl) h0
  obtain ⟨a1, rfl, rfl, rfl, w1⟩ := open_int Try.underlying3 (hval 1 3 v1 rfl rfl) h1
  have b0 := i64_bd w0
  have b1 := i64_bd w1
  exact ⟨body a0 a1 b0.1 b0.2 b1.1 b1.2 W, _, _, rfl⟩

theorem own : ownKnob Try.prog.godebug = none := by kernel_rfl
set_option maxRecDepth 100000 in
theorem lifted (os : Os) (started : os.Started) (H : Type) (enc : TypeId × Value → H) :
    ReturnsInHanded {} Try.checked os 7 .any (Rows.windowRegionsSpec.pre6 enc Try.prog Try.f7 Rows.windowRegionsRow.domain false) (Rows.windowRegionsSpec.post enc Try.prog Try.f7 false true false false) := by
  refine returnsInHanded_of_change (C := Try.checked) own started (by kernel_rfl) Try.func7
    (ChangeSpec.witness6 (enc := enc) (C := Try.checked) false ⟨#[], #[.int .i64 0, .int .i64 0], []⟩ 8 (by kernel_rfl) (by kernel_rfl) (by kernel_rfl) (by kernel_rfl)) ?_
  intro W base args ds gs before hval hW hcnd _
  have hW' := hW
  obtain ⟨p, q, hA, hV, rfl, hfz, hnd⟩ := hW
  obtain ⟨rfl, rfl⟩ := trodVars_none hV
  have hlt : ∀ x ∈ p, x.block < W.heap.size := fun x hx => hW'.lt x (List.mem_append_left _ hx)
  obtain ⟨hc, d0, d1, rfl⟩ := walk H enc W base args ds p hval hA hlt
  refine hc.mono fun e W' ⟨he, hb⟩ => ?_
  subst he
  exact ⟨_, rfl, law_post (by kernel_rfl) (by kernel_rfl) rfl (by kernel_rfl) rfl rfl rfl rfl hW' hA hlt hb⟩

theorem over : Rows.windowRegionsRow.holds Try.pinned (OpenSpec.ofChange Rows.windowRegionsSpec) :=
  OpenClaim.holds_of_wide 7 Try.f7 rfl rfl rfl rfl rfl rfl rfl ⟨rfl, rfl, rfl, rfl, rfl⟩ rfl rfl rfl rfl rfl (by kernel_rfl) Try.func7 (by kernel_rfl)
    (of_decide_eq_true (by kernel_rfl)) (by unfold Func.isWrapper; first | (rw [if_pos (by decide +kernel)]; kernel_rfl) | (rw [if_neg (by decide +kernel)]; exact ⟨rfl, rfl⟩))
    (fun os started H enc _ => lifted os started H enc)

theorem proved : Rows.WindowRegionsSaid :=
  over

end Go.Proofs.Ytcgdipkmcgionaa.windowRegions
