/-
  'SealLooks' returns true for every input, and leaves what it is given as it was. No condition.
-/
import Derived.Test.YtackenlfnecanaaSealO
namespace Go.Proofs.Ytackenlfnecanaa.sealLooks
open Go.ChangeShapes Go.WideShapes Go.ChangeAt Go.RowKit Go.Proofs.Ytackenlfnecanaa
set_option linter.unusedVariables false
set_option maxHeartbeats 2000000
set_option maxRecDepth 8000

theorem laid (w : World) (key at_ c s n : Int) (s0 s1 : Value) : ∃ w0, ((w.alloc (.cells #[.int .u64 key, .int .u32 at_] 25)).alloc (.cells #[.int .i64 c, .int .i64 s, .int .u32 n] 27)).alloc (.cells #[s0, s1] 43) = w0 ∧
    Blk w0 w.heap.size #[.int .u64 key, .int .u32 at_] 25 ∧ Blk w0 (w.heap.size + 1) #[.int .i64 c, .int .i64 s, .int .u32 n] 27 ∧ Blk w0 (w.heap.size + 1 + 1) #[s0, s1] 43 ∧ Below w.heap.size w w0 :=
  ⟨_, rfl, ((Blk.new w _ _).alloc _).alloc _, (Blk.newAt _ _ _ (by simp)).alloc _, Blk.newAt _ _ _ (by simp), (((Below.refl _ w).alloc (Nat.le_refl _) _).alloc (by simp) _).alloc (by simp; omega) _⟩
theorem big (key at_ c s n : Int) (v0 v1 : Value) (l0 l1 : List Int) (w : World) (hl : 100 < l0.length ∨ 100 < l1.length) (hv0 : RowAt w.heap.size w v0 l0.length (intVals .u8 l0)) (hv1 : RowAt w.heap.size w v1 l1.length (intVals .u8 l1)) :
    Calls Try.prog 5 #[.agg #[.int .u64 key, .int .u32 at_], .agg #[.int .i64 c, .int .i64 s, .int .u32 n], .agg #[v0, v1]] w fun e w' => e = .returned (.bool true) ∧ Below w.heap.size w w' := by
  obtain ⟨ad0, cap0, rfl, hcap0, _⟩ := hv0
  obtain ⟨ad1, cap1, rfl, hcap1, _⟩ := hv1
  clear hcap0 hcap1
  obtain ⟨w0, hw0, hP, hX, hA, hb0⟩ := laid w key at_ c s n (.slice ad0 l0.length cap0) (.slice ad1 l1.length cap1)
  have a0 : w0.cell? ⟨w.heap.size + 1 + 1, 0, none⟩ = some (.slice ad0 l0.length cap0) := hA.cell 0 rfl
  have a1 : w0.cell? ⟨w.heap.size + 1 + 1, 1, none⟩ = some (.slice ad1 l1.length cap1) := hA.cell 1 rfl
  by_cases h0 : 100 < l0.length
  · clear hl
    go_enter Try.func5, Try.ntmps5
    go_wp2_with fail
    refine (works_ok _).mono ?_; rintro e w5 ⟨rfl, hb5⟩
    go_wp2_with fail
    go_ret
    exact ⟨rfl, hb0.trans (hb5.mono hb0.size)⟩
  · have h1 : 100 < l1.length := by omega
    have h0' : l0.length ≤ 100 := by omega
    clear hl h0
    go_enter Try.func5, Try.ntmps5
    go_wp2_with fail
    refine (works_ok _).mono ?_; rintro e w5 ⟨rfl, hb5⟩
    go_wp2_with fail
    go_ret
    exact ⟨rfl, hb0.trans (hb5.mono hb0.size)⟩
theorem small (key at_ c s n : Int) (hk : 0 ≤ key) (hk' : key < 18446744073709551616) (ha : 0 ≤ at_) (ha' : at_ < 4294967296) (hn : 0 ≤ n) (hn' : n < 4294967296) (v0 v1 : Value) (l0 l1 : List Int) (hw0 : ∀ x ∈ l0, 0 ≤ x ∧ x < 256) (hw1 : ∀ x ∈ l1, 0 ≤ x ∧ x < 256) (w : World) (hl0 : l0.length ≤ 100) (hl1 : l1.length ≤ 100) (hv0 : RowAt w.heap.size w v0 l0.length (intVals .u8 l0)) (hv1 : RowAt w.heap.size w v1 l1.length (intVals .u8 l1)) :
    Calls Try.prog 5 #[.agg #[.int .u64 key, .int .u32 at_], .agg #[.int .i64 c, .int .i64 s, .int .u32 n], .agg #[v0, v1]] w fun e w' => e = .returned (.bool true) ∧ Below w.heap.size w w' := by
  obtain ⟨ad0, cap0, rfl, _, _⟩ := id hv0
  obtain ⟨ad1, cap1, rfl, _, _⟩ := id hv1
  have HW0 := Lib.hid hw0
  have HW1 := Lib.hid hw1
  clear hw0 hw1
  obtain ⟨w0, hw0, hP, hX, hA, hb0⟩ := laid w key at_ c s n (.slice ad0 l0.length cap0) (.slice ad1 l1.length cap1)
  have z0 := hb0.size
  have r0 := hv0.below hb0 (Nat.le_refl _)
  have r1 := hv1.below hb0 (Nat.le_refl _)
  have a0 : w0.cell? ⟨w.heap.size + 1 + 1, 0, none⟩ = some (.slice ad0 l0.length cap0) := hA.cell 0 rfl
  have a1 : w0.cell? ⟨w.heap.size + 1 + 1, 1, none⟩ = some (.slice ad1 l1.length cap1) := hA.cell 1 rfl
  have p0 : w0.cell? ⟨w.heap.size, 0, none⟩ = some (.int .u64 key) := hP.cell 0 rfl
  have p1 : w0.cell? ⟨w.heap.size, 1, none⟩ = some (.int .u32 at_) := hP.cell 1 rfl
  obtain ⟨x0, x1, x2⟩ := tag3 hX
  cases hr : rightI c s
  · go_enter Try.func5, Try.ntmps5
    go_wp2_with fail
    clear hw0
    refine (Look_no key at_ c s n ha ha' hn hn' hr _ _ _).mono ?_; rintro e w1 ⟨rfl, h1⟩
    have hb1 := hb0.trans (h1.mono z0)
    have hX1 := hX.below h1 hX.lt
    clear a0 a1 p0 p1 x0 x1 x2 h1
    obtain ⟨x0, x1, x2⟩ := tag3 hX1
    go_wp2_with fail
    refine (rRight_calls _ _ _ _).mono ?_; rintro e w2 ⟨rfl, h2⟩
    rw [hr]
    have hb2 := hb1.trans (h2.mono hb1.size)
    clear x0 x1 x2 h2
    go_wp2_with fail
    refine (num_calls _ _).mono ?_; rintro e w' ⟨rfl, rfl⟩
    go_wp2_with fail
    refine (works_ok _).mono ?_; rintro e w5 ⟨rfl, h5⟩
    go_wp2_with fail
    go_ret
    exact ⟨rfl, hb2.trans (h5.mono hb2.size)⟩
  · obtain ⟨K, hK⟩ : ∃ K, lookI l0 l1 (sealB (foldI [key, at_]) (wordI c s n)) (sealB (foldI [at_, key]) (wordI c s n)) = K := ⟨_, rfl⟩
    have HL := Look_yes key at_ c s n ha ha' hn hn' hr _ _ l0 l1 (by unfold maxLen; omega) (by unfold maxLen; omega) w.heap.size w0 z0 r0 r1
    rw [hK] at HL
    go_enter Try.func5, Try.ntmps5
    go_wp2_with fail
    clear hw0
    refine HL.mono ?_; rintro e w1 ⟨rfl, h1⟩
    have hb1 := hb0.trans (h1.mono z0)
    have z1 := h1.size
    have hX1 := hX.below h1 hX.lt
    have hP1 := hP.below h1 hP.lt
    have hA1 := hA.below h1 hA.lt
    have q0 := r0.below h1 z0
    have q1 := r1.below h1 z0
    clear a0 a1 p0 p1 x0 x1 x2 h1 HL hX hP hA r0 r1
    obtain ⟨x0, x1, x2⟩ := tag3 hX1
    go_wp2_with fail
    refine (rRight_calls _ _ _ _).mono ?_; rintro e w2 ⟨rfl, h2⟩
    rw [hr]
    have hb2 := hb1.trans (h2.mono hb1.size)
    have z2 := h2.size
    have hX2 := hX1.below h2 hX1.lt
    have hP2 := hP1.below h2 hP1.lt
    have hA2 := hA1.below h2 hA1.lt
    have r0 := q0.below h2 (by omega)
    have r1 := q1.below h2 (by omega)
    clear x0 x1 x2 h2 hX1 hP1 hA1 q0 q1
    obtain ⟨x0, x1, x2⟩ := tag3 hX2
    have a0 : w2.cell? ⟨w.heap.size + 1 + 1, 0, none⟩ = some (.slice ad0 l0.length cap0) := hA2.cell 0 rfl
    have a1 : w2.cell? ⟨w.heap.size + 1 + 1, 1, none⟩ = some (.slice ad1 l1.length cap1) := hA2.cell 1 rfl
    have p0 : w2.cell? ⟨w.heap.size, 0, none⟩ = some (.int .u64 key) := hP2.cell 0 rfl
    have p1 : w2.cell? ⟨w.heap.size, 1, none⟩ = some (.int .u32 at_) := hP2.cell 1 rfl
    have HL := rLook_ok key at_ c s n hk hk' ha ha' hn hn' hr _ _ l0 l1 HW0.out HW1.out w.heap.size w2 hb2.size r0 r1
    rw [hK] at HL
    go_wp2_with fail
    refine HL.mono ?_; rintro e w3 ⟨rfl, h3⟩
    have hb3 := hb2.trans (h3.mono hb2.size)
    clear a0 a1 p0 p1 x0 x1 x2 h3 HL hX2 hP2 hA2 r0 r1
    go_wp2_with fail
    refine (num_calls _ _).mono ?_; rintro e w' ⟨rfl, rfl⟩
    go_wp2_with fail
    refine (works_ok _).mono ?_; rintro e w5 ⟨rfl, h5⟩
    go_wp2_with fail
    go_ret
    exact ⟨rfl, hb3.trans (h5.mono hb3.size)⟩
theorem walk (H : Type) (enc : TypeId × Value → H) (W : World) (base : Nat) (args : Array Value) (ds : List (DataW H)) (p : List MemPlace)
    (hval : ∀ (j : Nat) t v, Try.f5.params[j]? = some t → args[j]? = some v → Value.okWide Try.prog W .any base t v)
    (hA : DataW.TrodAll enc Try.prog W 0 (fun _ => true) true Try.f5.params.toList args.toList ds p) (hlt : ∀ x ∈ p, x.block < W.heap.size) :
    Calls Try.prog 5 args W (fun e W' => e = .returned (.bool true) ∧ Below W.heap.size W W') ∧ ∃ d0 d1 d2, ds = [d0, d1, d2] := by
  rw [Try.params5] at hA hval
  obtain ⟨v0, vs0, d0, ds0, p0, q0, hargs, rfl, rfl, h0, r0⟩ := trodAll_cons hA
  obtain ⟨v1, vs1, d1, ds1, p1, q1, rfl, rfl, rfl, h1, r1⟩ := trodAll_cons r0
  obtain ⟨v2, vs2, d2, ds2, p2, q2, rfl, rfl, rfl, h2, r2⟩ := trodAll_cons r1
  obtain ⟨rfl, rfl, rfl⟩ := trodAll_nil r2
  obtain rfl : args = #[v0, v1, v2] := by cases args; simp_all
  obtain ⟨key, at_, rfl, bk, ba⟩ := open_place (hval 0 25 v0 rfl rfl) h0
  obtain ⟨c, s, n, rfl, bn⟩ := open_tag (hval 1 27 v1 rfl rfl) h1
  obtain ⟨s0, s1, z0, z1, m2, rfl, hz0, hz1⟩ := open_array2 Try.underlying43 (by kernel_rfl) (by kernel_rfl) (hval 2 43 v2 rfl rfl) h2
  obtain ⟨l0, hr0, hw0, _⟩ := open_rowT Try.underlying28 Try.underlying5 (by kernel_rfl) hz0
  obtain ⟨l1, hr1, hw1, _⟩ := open_rowT Try.underlying28 Try.underlying5 (by kernel_rfl) hz1
  refine ⟨?_, _, _, _, rfl⟩
  by_cases hl : l0.length ≤ 100 ∧ l1.length ≤ 100
  · exact small key at_ c s n bk.1 bk.2 ba.1 ba.2 bn.1 bn.2 s0 s1 l0 l1 (fun x hx => u8_bd (hw0 x hx)) (fun x hx => u8_bd (hw1 x hx)) W hl.1 hl.2 hr0 hr1
  · exact big key at_ c s n s0 s1 l0 l1 W (by omega) hr0 hr1

theorem own : ownKnob Try.prog.godebug = none := by kernel_rfl
set_option maxRecDepth 100000 in
theorem lifted (os : Os) (started : os.Started) (H : Type) (enc : TypeId × Value → H) :
    ReturnsInHanded {} Try.checked os 5 .any (Rows.sealLooksSpec.pre6 enc Try.prog Try.f5 Rows.sealLooksRow.domain false) (Rows.sealLooksSpec.post enc Try.prog Try.f5 false true false false) := by
  refine returnsInHanded_of_change (C := Try.checked) own started (by kernel_rfl) Try.func5
    (ChangeSpec.witness6 (enc := enc) (C := Try.checked) false ⟨#[], #[.agg #[.int .u64 0, .int .u32 0], .agg #[.int .i64 0, .int .i64 0, .int .u32 0], .agg #[.slice none 0 0, .slice none 0 0]], []⟩ 8 (by kernel_rfl) (by kernel_rfl) (by kernel_rfl) (by kernel_rfl)) ?_
  intro W base args ds gs before hval hW hcnd _
  have hW' := hW
  obtain ⟨p, q, hA, hV, rfl, hfz, hnd⟩ := hW
  obtain ⟨rfl, rfl⟩ := trodVars_none hV
  have hlt : ∀ x ∈ p, x.block < W.heap.size := fun x hx => hW'.lt x (List.mem_append_left _ hx)
  obtain ⟨hc, d0, d1, d2, rfl⟩ := walk H enc W base args ds p hval hA hlt
  refine hc.mono fun e W' ⟨he, hb⟩ => ?_
  subst he
  exact ⟨_, rfl, law_post (by kernel_rfl) (by kernel_rfl) rfl (by kernel_rfl) rfl rfl rfl rfl hW' hA hlt hb⟩

theorem over : Rows.sealLooksRow.holds Try.pinned (OpenSpec.ofChange Rows.sealLooksSpec) :=
  OpenClaim.holds_of_wide 5 Try.f5 rfl rfl rfl rfl rfl rfl rfl ⟨rfl, rfl, rfl, rfl, rfl⟩ rfl rfl rfl rfl rfl (by kernel_rfl) Try.func5 (by kernel_rfl)
    (of_decide_eq_true (by kernel_rfl)) (by unfold Func.isWrapper; first | (rw [if_pos (by decide +kernel)]; kernel_rfl) | (rw [if_neg (by decide +kernel)]; exact ⟨rfl, rfl⟩))
    (fun os started H enc _ => lifted os started H enc)

theorem proved : Rows.SealLooksSaid :=
  over

end Go.Proofs.Ytackenlfnecanaa.sealLooks
