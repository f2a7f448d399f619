/-
  'MixBack' returns true for every input, and leaves what it is given as it was. No condition.
-/
import Derived.Test.YtpklmjdcplpgeaaFrame
import Derived.Test.YtpklmjdcplpgeaaMixQ
import Derived.Lib.SmallJoins
namespace Go.Proofs.Ytpklmjdcplpgeaa.mixBack
open Go.ChangeShapes Go.WideShapes Go.ChangeAt Go.RowKit Go.Proofs.Ytpklmjdcplpgeaa Go.Joins
set_option linter.unusedVariables false
set_option maxHeartbeats 1000000

theorem info64 : ElemInfo Try.prog 23 (.int .u64 0) 1 8 := elemInfo_of (by kernel_rfl) rfl (by decide)
theorem mix_inj (key a b : Int) (ha : 0 ≤ a) (ha' : a < 18446744073709551616) (hb : 0 ≤ b) (hb' : b < 18446744073709551616) : (mixI key a = mixI key b) ↔ a = b := by
  refine ⟨fun h => ?_, fun h => by rw [h]⟩
  have := congrArg (undoI key) h
  rwa [undo_mix key a ha ha', undo_mix key b hb hb'] at this
theorem xor_inj (x y a : Int) (hx : 0 ≤ x) (hx' : x < 18446744073709551616) (hy : 0 ≤ y) (hy' : y < 18446744073709551616) (ha : 0 ≤ a) (ha' : a < 18446744073709551616) :
    (bits BinOp.xor .u64 x a = bits BinOp.xor .u64 y a) ↔ x = y := by
  refine ⟨fun h => ?_, fun h => by rw [h]⟩
  obtain ⟨x, rfl⟩ := Int.eq_ofNat_of_zero_le hx
  obtain ⟨y, rfl⟩ := Int.eq_ofNat_of_zero_le hy
  obtain ⟨a, rfl⟩ := Int.eq_ofNat_of_zero_le ha
  rw [bits_xor_u64_nat x a (by omega) (by omega), bits_xor_u64_nat y a (by omega) (by omega)] at h
  have h1 : x ^^^ a = y ^^^ a := by exact_mod_cast h
  have h2 := congrArg (· ^^^ a) h1
  simp only [Nat.xor_assoc, Nat.xor_self, Nat.xor_zero] at h2
  rw [h2]
theorem f3 (key a b : Int) (ha : 0 ≤ a) (ha' : a < 18446744073709551616) (hb : 0 ≤ b) (hb' : b < 18446744073709551616) : ((mixI key a == mixI key b) != (a == b)) = false := by
  have h := mix_inj key a b ha ha' hb hb'
  have e : (mixI key a == mixI key b) = (a == b) := by rw [Bool.eq_iff_iff]; simp [h]
  rw [e]; simp
theorem f5 (l0 l1 : List Int) (a : Int) (ha : 0 ≤ a) (ha' : a < 18446744073709551616) : ((foldI l0 == foldI l1) == (foldI (l0 ++ [a]) == foldI (l1 ++ [a]))) = true := by
  have h := mix_inj a (foldI l0) (foldI l1) (fold_bd l0).1 (fold_bd l0).2 (fold_bd l1).1 (fold_bd l1).2
  have h2 := xor_inj (mixI a (foldI l0)) (mixI a (foldI l1)) a (mix_bd _ _).1 (mix_bd _ _).2 (mix_bd _ _).1 (mix_bd _ _).2 ha ha'
  rw [foldI_snoc, foldI_snoc]
  have e : (bits BinOp.xor .u64 (mixI a (foldI l0)) a == bits BinOp.xor .u64 (mixI a (foldI l1)) a) = (foldI l0 == foldI l1) := by rw [Bool.eq_iff_iff]; simp [h, h2]
  rw [e]; simp

theorem small (key a b : Int) (hk : 0 ≤ key) (hk' : key < 18446744073709551616) (ha : 0 ≤ a) (ha' : a < 18446744073709551616) (hb : 0 ≤ b) (hb' : b < 18446744073709551616)
    (v0 v1 : Value) (l0 l1 : List Int) (w : World) (hl0 : l0.length ≤ 20) (hl1 : l1.length ≤ 20) (hv0 : RowAt w.heap.size w v0 l0.length (intVals .u64 l0)) (hv1 : RowAt w.heap.size w v1 l1.length (intVals .u64 l1)) :
    Calls Try.prog 6 #[.int .u64 key, .agg #[.int .u64 a, .int .u64 b], .agg #[v0, v1]] w fun e w' => e = .returned (.bool true) ∧ Below w.heap.size w w' := by
  obtain ⟨ad0, cap0, rfl, hcap0, _⟩ := id hv0
  obtain ⟨ad1, cap1, rfl, hcap1, _⟩ := id hv1
  have h1 := Lib.hid (f3 key a b ha ha' hb hb')
  have hU : (undoI key (mixI key a) != a) = false := by rw [undo_mix key a ha ha']; simp
  have hM : (mixI key (undoI key a) != a) = false := by rw [mix_undo key a ha ha']; simp
  have hX : (!((mixI key a == mixI key b) == (a == b))) = false := f3 key a b ha ha' hb hb'
  have hF : (foldI (l0 ++ [a]) != bits BinOp.xor .u64 (mixI a (foldI l0)) a) = false := by rw [foldI_snoc]; simp
  have hG := f5 l0 l1 a ha ha'
  obtain ⟨W0, hW0⟩ : ∃ W0, W0 = (w.alloc (.cells #[.int .u64 a, .int .u64 b] 40)).alloc (.cells #[.slice ad0 l0.length cap0, .slice ad1 l1.length cap1] 41) := ⟨_, rfl⟩
  have hB0 : Blk W0 w.heap.size #[.int .u64 a, .int .u64 b] 40 := by rw [hW0]; exact (Blk.new w _ _).alloc _
  have hB1 : Blk W0 (w.heap.size + 1) #[.slice ad0 l0.length cap0, .slice ad1 l1.length cap1] 41 := by rw [hW0]; exact Blk.newAt _ _ _ (by simp)
  have hw0 : Below w.heap.size w W0 := by rw [hW0]; exact ((Below.refl _ w).alloc (Nat.le_refl _) _).alloc (by simp) _
  have hs0 : W0.heap.size = w.heap.size + 2 := by rw [hW0]; simp
  have hs0' : w.heap.size + 2 ≤ W0.heap.size := by omega
  have HW := Lib.hid hW0
  clear hW0 hs0 h1
  have c00 : W0.cell? ⟨w.heap.size, 0, none⟩ = some (.int .u64 a) := hB0.cell 0 rfl
  have c01 : W0.cell? ⟨w.heap.size, 1, none⟩ = some (.int .u64 b) := hB0.cell 1 rfl
  go_enter Try.func6, Try.ntmps6
  go_wp2_with fail
  rw [← HW.out]
  go_quiet (fail)
  clear c00 c01
  generalize hw1 : W0.drewN nq = W1
  have hb01 : Below W0.heap.size W0 W1 := by rw [← hw1]; exact (Below.refl _ _).drewN _
  clear hw1
  have hz01 := hb01.size
  go_wp2_with fail
  refine (Mix_ok _ _ _).mono ?_; rintro e W2 ⟨rfl, hb2⟩
  have hz2 := hb2.size
  go_wp2_with fail
  refine (Mix_ok _ _ _).mono ?_; rintro e W3 ⟨rfl, hb3⟩
  have hz3 := hb3.size
  go_wp2_with fail
  refine (Undo_ok _ _ _).mono ?_; rintro e W4 ⟨rfl, hb4⟩
  have hz4 := hb4.size
  go_wp2_with fail
  refine (Undo_ok _ _ _).mono ?_; rintro e W5 ⟨rfl, hb5⟩
  have hz5 := hb5.size
  go_wp2_with fail
  refine (Mix_ok _ _ _).mono ?_; rintro e W6 ⟨rfl, hb6⟩
  have hz6 := hb6.size
  have hK6 : Below W0.heap.size W0 W6 := ((((hb01.trans (hb2.mono (by omega))).trans (hb3.mono (by omega))).trans (hb4.mono (by omega))).trans (hb5.mono (by omega))).trans (hb6.mono (by omega))
  clear hb01 hb2 hb3 hb4 hb5 hb6
  have HBP : Below w.heap.size w W6 := hw0.trans (hK6.mono (by omega))
  have d6 := hB1.below hK6 (by omega)
  have hz6' : w.heap.size ≤ W6.heap.size := HBP.size
  have c10 : ∀ o, (W6.alloc o).cell? ⟨w.heap.size + 1, 0, none⟩ = some (.slice ad0 l0.length cap0) := fun o => (d6.alloc o).cell 0 rfl
  go_wp2_with (at_builtin; refine wpList_append_row rfl _ _ 36 rfl W6.heap.size Try.underlying36 info64 0 [] rfl ?c1 w.heap.size l0.length (intVals .u64 l0) rfl ?c2 ?c3 ?c4 ?c5 ?c6 ?c7 ?_)
  case c1 => exact World.ownsRow_made W6 #[] 0 (Nat.le_refl _) (by decide) rfl
  case c2 => exact (hv0.below HBP (Nat.le_refl _)).below ((Below.refl _ W6).alloc (Nat.le_refl _) _) (by have := HBP.size; omega)
  case c3 => rw [intVals_len]; omega
  case c4 => exact intVals_one _ _
  case c5 => unfold maxLen; omega
  case c6 => omega
  case c7 => simp
  intro u1 W7 ho1 hg1
  have hK7 : Below W6.heap.size W6 W7 := ((Below.refl _ W6).alloc (Nat.le_refl _) _).appended (World.ownsRow_made (e := 23) (size := 1) (base := W6.heap.size) W6 #[] 0 (Nat.le_refl _) (by decide) rfl) hg1 (Nat.le_refl _) (by simp)
  have hz7 := hK7.size
  clear hg1
  go_wp2_with (at_builtin; refine wpList_append_row rfl _ _ 36 rfl W6.heap.size Try.underlying36 info64 l0.length (intVals .u64 l0) rfl ?c1 (W7.heap.size + 1) 1 [.int .u64 a] rfl ?c2 ?c3 ?c4 ?c5 ?c6 ?c7 ?_)
  case c1 => exact ho1.alloc _
  case c2 => exact RowAt.lit W7 #[.int .u64 a] 23 1 _ (by omega)
  case c3 => rfl
  case c4 => intro u hu; simp at hu; subst hu; rfl
  case c5 => unfold maxLen; omega
  case c6 => omega
  case c7 => simp; omega
  intro more W8 hmore hg2
  have hK8 : Below W6.heap.size W6 W8 := (hK7.alloc (by omega) _).appended (ho1.alloc _) hg2 (Nat.le_refl _) (by simp; omega)
  have hz8 := hK8.size
  clear hg2 ho1 hK7
  have hil : (intVals .u64 l0 ++ [Value.int .u64 a]) = intVals .u64 (l0 ++ [a]) := by simp [intVals]
  rw [hil] at hmore
  clear hil
  have hm8 : RowAt W8.heap.size W8 more (l0 ++ [a]).length (intVals .u64 (l0 ++ [a])) := by simpa using RowAt.of_owns hmore (Nat.le_refl _)
  have hB8 : Below w.heap.size w W8 := HBP.trans (hK8.mono HBP.size)
  have d8 := d6.below hK8 (by omega)
  have c8 : W8.cell? ⟨w.heap.size + 1, 0, none⟩ = some (.slice ad0 l0.length cap0) := d8.cell 0 rfl
  have c8' : ∀ x : After W8.heap.size W8, x.1.cell? ⟨w.heap.size + 1, 0, none⟩ = some (.slice ad0 l0.length cap0) := After.cell c8 (by omega)
  go_wp2_with fail
  refine wp_region_after W8.heap.size (by kernel_rfl) (by kernel_rfl) ?_
  repeat (go_big_quiet_step (first | (go_at_call 18; first | exact after_call (Nat.le_refl _) (Fold_ok _ (l0 ++ [a]) W8.heap.size _ (After.below _).size (by simp; omega) (hm8.below (After.below _) (Nat.le_refl _))) | exact after_call (Nat.le_refl _) (Fold_ok _ l0 w.heap.size _ (After.le _ (by omega)) (by omega) ((hv0.below hB8 (Nat.le_refl _)).below (After.below _) (by omega)))) | (go_at_call 14; exact after_call (Nat.le_refl _) (Mix_ok _ _ _))))
  refine wpQuiet_nil ?_
  rintro W9 ⟨x, hx⟩
  have hb9 : Below W8.heap.size W8 W9 := by rw [hx]; exact x.2
  clear hx x c8 c8'
  have hz9 := hb9.size
  have hB9 : Below w.heap.size w W9 := hB8.trans (hb9.mono (by omega))
  have d9 := d8.below hb9 (by omega)
  have hm9 := hm8.below hb9 (Nat.le_refl _)
  have c9 : ∀ o, (W9.alloc o).cell? ⟨w.heap.size + 1, 1, none⟩ = some (.slice ad1 l1.length cap1) := fun o => (d9.alloc o).cell 1 rfl
  go_wp2_with (at_builtin; refine wpList_append_row rfl _ _ 36 rfl W9.heap.size Try.underlying36 info64 0 [] rfl ?c1 w.heap.size l1.length (intVals .u64 l1) rfl ?c2 ?c3 ?c4 ?c5 ?c6 ?c7 ?_)
  case c1 => exact World.ownsRow_made W9 #[] 0 (Nat.le_refl _) (by decide) rfl
  case c2 => exact (hv1.below hB9 (Nat.le_refl _)).below ((Below.refl _ W9).alloc (Nat.le_refl _) _) (by have := hB9.size; omega)
  case c3 => rw [intVals_len]; omega
  case c4 => exact intVals_one _ _
  case c5 => unfold maxLen; omega
  case c6 => omega
  case c7 => simp
  intro u3 WX ho1 hg1
  have hKX : Below W9.heap.size W9 WX := ((Below.refl _ W9).alloc (Nat.le_refl _) _).appended (World.ownsRow_made (e := 23) (size := 1) (base := W9.heap.size) W9 #[] 0 (Nat.le_refl _) (by decide) rfl) hg1 (Nat.le_refl _) (by simp)
  have hzX := hKX.size
  clear hg1
  go_wp2_with (at_builtin; refine wpList_append_row rfl _ _ 36 rfl W9.heap.size Try.underlying36 info64 l1.length (intVals .u64 l1) rfl ?c1 (WX.heap.size + 1) 1 [.int .u64 a] rfl ?c2 ?c3 ?c4 ?c5 ?c6 ?c7 ?_)
  case c1 => exact ho1.alloc _
  case c2 => exact RowAt.lit WX #[.int .u64 a] 23 1 _ (by omega)
  case c3 => rfl
  case c4 => intro u hu; simp at hu; subst hu; rfl
  case c5 => unfold maxLen; omega
  case c6 => omega
  case c7 => simp; omega
  intro other WY hother hg2
  have hKY : Below W9.heap.size W9 WY := (hKX.alloc (by omega) _).appended (ho1.alloc _) hg2 (Nat.le_refl _) (by simp; omega)
  have hzY := hKY.size
  clear hg2 ho1 hKX
  have hil : (intVals .u64 l1 ++ [Value.int .u64 a]) = intVals .u64 (l1 ++ [a]) := by simp [intVals]
  rw [hil] at hother
  clear hil
  have hoY : RowAt WY.heap.size WY other (l1 ++ [a]).length (intVals .u64 (l1 ++ [a])) := by simpa using RowAt.of_owns hother (Nat.le_refl _)
  have hmY := hm9.below hKY (by omega)
  have hBY : Below w.heap.size w WY := hB9.trans (hKY.mono (by omega))
  have dY := d9.below hKY (by omega)
  have y0 : WY.cell? ⟨w.heap.size + 1, 0, none⟩ = some (.slice ad0 l0.length cap0) := dY.cell 0 rfl
  have y1 : WY.cell? ⟨w.heap.size + 1, 1, none⟩ = some (.slice ad1 l1.length cap1) := dY.cell 1 rfl
  have y0' : ∀ x : After WY.heap.size WY, x.1.cell? ⟨w.heap.size + 1, 0, none⟩ = some (.slice ad0 l0.length cap0) := After.cell y0 (by omega)
  have y1' : ∀ x : After WY.heap.size WY, x.1.cell? ⟨w.heap.size + 1, 1, none⟩ = some (.slice ad1 l1.length cap1) := After.cell y1 (by omega)
  go_wp2_with fail
  refine wp_region_after WY.heap.size (by kernel_rfl) (by kernel_rfl) ?_
  repeat (go_big_quiet_step (first | (go_at_call 18; first | exact after_call (Nat.le_refl _) (Fold_ok more (l0 ++ [a]) W8.heap.size _ (After.le _ (by omega)) (by simp; omega) (hmY.below (After.below _) (by omega))) | exact after_call (Nat.le_refl _) (Fold_ok other (l1 ++ [a]) WY.heap.size _ (After.below _).size (by simp; omega) (hoY.below (After.below _) (Nat.le_refl _))) | exact after_call (Nat.le_refl _) (Fold_ok (.slice ad0 l0.length cap0) l0 w.heap.size _ (After.le _ (by omega)) (by omega) ((hv0.below hBY (Nat.le_refl _)).below (After.below _) (by omega))) | exact after_call (Nat.le_refl _) (Fold_ok (.slice ad1 l1.length cap1) l1 w.heap.size _ (After.le _ (by omega)) (by omega) ((hv1.below hBY (Nat.le_refl _)).below (After.below _) (by omega)))) | (go_at_call 13; exact after_call (Nat.le_refl _) (works_ok _))))
  refine wpQuiet_nil ?_
  rintro WZ ⟨x, hx⟩
  have hbZ : Below WY.heap.size WY WZ := by rw [hx]; exact x.2
  clear hx x y0 y1 y0' y1'
  go_wp2_with fail
  go_ret
  exact ⟨rfl, hBY.trans (hbZ.mono (by omega))⟩

theorem big (key a b : Int) (v0 v1 : Value) (l0 l1 : List Int) (w : World) (hl : 20 < l0.length ∨ 20 < l1.length) (hv0 : RowAt w.heap.size w v0 l0.length (intVals .u64 l0)) (hv1 : RowAt w.heap.size w v1 l1.length (intVals .u64 l1)) :
    Calls Try.prog 6 #[.int .u64 key, .agg #[.int .u64 a, .int .u64 b], .agg #[v0, v1]] w fun e w' => e = .returned (.bool true) ∧ Below w.heap.size w w' := by
  obtain ⟨ad0, cap0, rfl, hcap0, _⟩ := hv0
  obtain ⟨ad1, cap1, rfl, hcap1, _⟩ := hv1
  clear hcap0 hcap1
  by_cases h0 : 20 < l0.length
  · clear hl
    go_enter Try.func6, Try.ntmps6
    go_wp2_with fail
    refine (works_ok _).mono ?_; rintro e w5 ⟨rfl, hb5⟩
    go_wp2_with fail
    go_ret
    exact ⟨rfl, (((Below.refl _ w).alloc (Nat.le_refl _) _).alloc (by simp) _).trans (hb5.mono (by simp; omega))⟩
  · have h1 : 20 < l1.length := by omega
    have h0' : l0.length ≤ 20 := by omega
    clear hl h0
    go_enter Try.func6, Try.ntmps6
    go_wp2_with fail
    refine (works_ok _).mono ?_; rintro e w5 ⟨rfl, hb5⟩
    go_wp2_with fail
    go_ret
    exact ⟨rfl, (((Below.refl _ w).alloc (Nat.le_refl _) _).alloc (by simp) _).trans (hb5.mono (by simp; omega))⟩

theorem walk (H : Type) (enc : TypeId × Value → H) (W : World) (base : Nat) (args : Array Value) (ds : List (DataW H)) (p : List MemPlace)
    (hval : ∀ (j : Nat) t v, Try.f6.params[j]? = some t → args[j]? = some v → Value.okWide Try.prog W .any base t v)
    (hA : DataW.TrodAll enc Try.prog W 0 (fun _ => true) true Try.f6.params.toList args.toList ds p) (hlt : ∀ x ∈ p, x.block < W.heap.size) :
    Calls Try.prog 6 args W (fun e W' => e = .returned (.bool true) ∧ Below W.heap.size W W') ∧ ∃ d0 d1 d2, ds = [d0, d1, d2] := by
  rw [Try.params6] at hA hval
  obtain ⟨v0, vs0, d0, ds0, p0, q0, hargs, rfl, rfl, h0, r0⟩ := trodAll_cons hA
  obtain ⟨v1, vs1, d1, ds1, p1, q1, rfl, rfl, rfl, h1, r1⟩ := trodAll_cons r0
  obtain ⟨v2, vs2, d2, ds2, p2, q2, rfl, rfl, rfl, h2, r2⟩ := trodAll_cons r1
  obtain ⟨rfl, rfl, rfl⟩ := trodAll_nil r2
  obtain rfl : args = #[v0, v1, v2] := by cases args; simp_all
  obtain ⟨key, rfl, rfl, rfl, wk⟩ := open_int Try.underlying23 (hval 0 23 v0 rfl rfl) h0
  obtain ⟨a', b', y0, y1, m, rfl, hy0, hy1⟩ := open_array2 Try.underlying40 (by kernel_rfl) (by kernel_rfl) (hval 1 40 v1 rfl rfl) h1
  obtain ⟨a, e0, _, wa⟩ := DataW.trod_int Try.underlying23 hy0
  obtain ⟨b, e1, _, wb⟩ := DataW.trod_int Try.underlying23 hy1
  simp at e0 e1
  subst e0 e1
  obtain ⟨s0, s1, z0, z1, m2, rfl, hz0, hz1⟩ := open_array2 Try.underlying41 (by kernel_rfl) (by kernel_rfl) (hval 2 41 v2 rfl rfl) h2
  obtain ⟨l0, hr0, _, _⟩ := open_rowT Try.underlying36 Try.underlying23 (by kernel_rfl) hz0
  obtain ⟨l1, hr1, _, _⟩ := open_rowT Try.underlying36 Try.underlying23 (by kernel_rfl) hz1
  refine ⟨?_, _, _, _, rfl⟩
  have bk := u64_bd wk
  have ba := u64_bd wa
  have bb := u64_bd wb
  by_cases hl : l0.length ≤ 20 ∧ l1.length ≤ 20
  · exact small key a b bk.1 bk.2 ba.1 ba.2 bb.1 bb.2 s0 s1 l0 l1 W hl.1 hl.2 hr0 hr1
  · exact big key a b s0 s1 l0 l1 W (by omega) hr0 hr1

theorem own : ownKnob Try.prog.godebug = none := by kernel_rfl
set_option maxRecDepth 100000 in
theorem lifted (os : Os) (started : os.Started) (H : Type) (enc : TypeId × Value → H) :
    ReturnsInHanded {} Try.checked os 6 .any (Rows.mixBackSpec.pre6 enc Try.prog Try.f6 Rows.mixBackRow.domain false) (Rows.mixBackSpec.post enc Try.prog Try.f6 false true false false) := by
  refine returnsInHanded_of_change (C := Try.checked) own started (by kernel_rfl) Try.func6
    (ChangeSpec.witness6 (enc := enc) (C := Try.checked) false ⟨#[], #[.int .u64 0, .agg #[.int .u64 0, .int .u64 0], .agg #[.slice none 0 0, .slice none 0 0]], []⟩ 8 (by kernel_rfl) (by kernel_rfl) (by kernel_rfl) (by kernel_rfl)) ?_
  intro W base args ds gs before hval hW hcnd _
  have hW' := hW
  obtain ⟨p, q, hA, hV, rfl, hfz, hnd⟩ := hW
  obtain ⟨rfl, rfl⟩ := trodVars_none hV
  have hlt : ∀ x ∈ p, x.block < W.heap.size := fun x hx => hW'.lt x (List.mem_append_left _ hx)
  obtain ⟨hc, d0, d1, d2, rfl⟩ := walk H enc W base args ds p hval hA hlt
  refine hc.mono fun e W' ⟨he, hb⟩ => ?_
  subst he
  exact ⟨_, rfl, law_post (by kernel_rfl) (by kernel_rfl) rfl (by kernel_rfl) rfl rfl rfl rfl hW' hA hlt hb⟩

theorem over : Rows.mixBackRow.holds Try.pinned (OpenSpec.ofChange Rows.mixBackSpec) :=
  OpenClaim.holds_of_wide 6 Try.f6 rfl rfl rfl rfl rfl rfl rfl ⟨rfl, rfl, rfl, rfl, rfl⟩ rfl rfl rfl rfl rfl (by kernel_rfl) Try.func6 (by kernel_rfl)
    (of_decide_eq_true (by kernel_rfl)) (by unfold Func.isWrapper; first | (rw [if_pos (by decide +kernel)]; kernel_rfl) | (rw [if_neg (by decide +kernel)]; exact ⟨rfl, rfl⟩))
    (fun os started H enc _ => lifted os started H enc)

theorem proved : Rows.MixBackSaid :=
  over

end Go.Proofs.Ytpklmjdcplpgeaa.mixBack
