/-
  Package pinfoldlaw15: works; MetaFinds. No condition.
-/
import Derived.Test.YtlpchcdalfkfcaaGreatBMeO
import Derived.Test.YtlpchcdalfkfcaaGreatBMeH
import Derived.Test.YtlpchcdalfkfcaaGreatBMeAa
import Derived.Test.YtlpchcdalfkfcaaGreatBFrame
namespace Go.Proofs.YtlpchcdalfkfcaaGreat
open Go.RowKit Go.ChangeShapes
attribute [local go_sem] Oper.semAt_some
set_option maxHeartbeats 8000000
set_option maxRecDepth 8000

theorem num_callsM (n : Int) (w : World) : Calls Tryz.prog 9 #[.int .i64 n] w fun e w' => e = .returned (.int .i64 n) ∧ w = w' := by
  go_enter Tryz.func9, Tryz.ntmps9
  go_wp2
  go_ret
  exact ⟨rfl, rfl⟩
theorem find_row1 {s c i no : Int} (h : FindSp 1048848 s c i no) : s = 0 ∧ c = 0 ∧ i = 0 ∧ no = 0 := h.uniq (.inl ⟨rfl, by decide, by decide⟩)
theorem find_row2 {s c i no : Int} (h : FindSp 1048849 s c i no) : s = 0 ∧ c = 0 ∧ i = 0 ∧ no = 250 := h.uniq (.inr ⟨⟨rfl, rfl, rfl, rfl⟩, fun s c i hz e => by
  obtain ⟨⟨⟨a0, a1⟩, a2, a3⟩, _, _⟩ := spE_zero.1 hz
  unfold atIM regJ at e
  rcases cls8 a2 a3 with rfl | rfl | rfl | rfl | rfl | rfl | rfl | rfl <;> simp only [slt_v] at e <;> omega⟩)
theorem works_okM (w : World) : Calls Tryz.prog 13 #[] w fun e w' => e = .returned (.bool true) ∧ Below w.heap.size w w' := by
  go_enter Tryz.func13, Tryz.ntmps13
  go_wp2_with fail
  refine (mAt_ok 0 0 0 _).mono ?_; rintro e w1 ⟨rfl, k1⟩
  rw [show atO 0 0 0 = 1048848 by decide, show spE 0 0 0 = 0 by decide]
  go_wp2_with fail
  refine (mAt_ok 0 0 1 _).mono ?_; rintro e w2 ⟨rfl, k2⟩
  rw [show atO 0 0 1 = 1048896 by decide, show spE 0 0 1 = 0 by decide]
  replace k2 := k1.trans (k2.mono k1.size)
  clear k1
  go_wp2_with fail
  refine (mFind_ok 1048848 (by decide) (by decide) _).mono ?_; rintro e w3 ⟨s, c, i, no, rfl, hf, k3⟩
  obtain ⟨rfl, rfl, rfl, rfl⟩ := find_row1 hf
  replace k3 := k2.trans (k3.mono k2.size)
  clear k2 hf
  go_wp2_with fail
  obtain ⟨w4, hw4⟩ : ∃ w4, w3.alloc (.cells #[.int .i64 0, .int .i64 0, .int .i64 0] 23) = w4 := ⟨_, rfl⟩
  have hX : Blk w4 w3.heap.size #[.int .i64 0, .int .i64 0, .int .i64 0] 23 := by rw [← hw4]; exact Blk.new _ _ _
  have k4 : Below w.heap.size w w4 := by rw [← hw4]; exact k3.alloc k3.size _
  rw [hw4]
  clear hw4 k3
  obtain ⟨bx, hbx⟩ : ∃ b, w3.heap.size = b := ⟨_, rfl⟩
  rw [hbx] at hX ⊢
  clear hbx
  refine (mFind_ok 1048849 (by decide) (by decide) _).mono ?_; rintro e w5 ⟨s, c, i, no, rfl, hf, k5⟩
  obtain ⟨rfl, rfl, rfl, rfl⟩ := find_row2 hf
  have hX5 := hX.below k5 hX.lt
  replace k5 := k4.trans (k5.mono k4.size)
  clear k4 hf hX
  go_wp2_with fail
  refine (mAt_ok 0 0 85 _).mono ?_; rintro e w6 ⟨rfl, k6⟩
  rw [show atO 0 0 85 = 0 by decide, show spE 0 0 85 = 4 by decide]
  have j6 : Below w5.heap.size w5 w6 := ((Below.refl _ w5).alloc (Nat.le_refl _) _).trans (k6.mono (by simp))
  have hX6 := hX5.below j6 hX5.lt
  replace k6 := k5.trans (j6.mono k5.size)
  clear k5 j6 hX5
  go_wp2_with fail
  refine (mAt_ok 4 0 0 _).mono ?_; rintro e w7 ⟨rfl, k7⟩
  rw [show atO 4 0 0 = 0 by decide, show spE 4 0 0 = 2 by decide]
  have hX7 := hX6.below k7 hX6.lt
  replace k7 := k6.trans (k7.mono k6.size)
  clear k6 hX6
  go_wp2_with fail
  refine (vNew_ok 1 (by decide) (by decide) w7).mono ?_; rintro e W ⟨k, rfl, hm, hlo, _, hb⟩
  have L : LivM w7 W k ⟨1, [], [], []⟩ := ⟨hm, MGd.new 1 (by decide) (by decide), hb, hlo⟩
  have hX8 := hX7.below hb hX7.lt
  have k8 := k7.trans (hb.mono k7.size)
  clear hm hlo hb k7 hX7
  go_wp2_with fail
  refine (mPut_no L 0 0 0 0 0 0 (by decide)).mono ?_; rintro e W9 ⟨rfl, k9⟩
  rw [show putX ⟨1, [], [], []⟩ 0 0 0 (rgtR 0 0) = 5 by decide]
  have hX9 := hX8.below k9 hX8.lt
  replace k9 := k8.trans (k9.mono k8.size)
  clear k8 hX8 L
  have r0 := hX9.cell 0 (v := .int .i64 0) rfl
  have r1 := hX9.cell 1 (v := .int .i64 0) rfl
  have r2 := hX9.cell 2 (v := .int .i64 0) rfl
  go_wp2_with fail
  refine (num_callsM _ _).mono ?_; rintro e w1 ⟨rfl, rfl⟩
  go_wp2_with fail
  refine (num_callsM _ _).mono ?_; rintro e w1 ⟨rfl, rfl⟩
  go_wp2_with fail
  refine (num_callsM _ _).mono ?_; rintro e w1 ⟨rfl, rfl⟩
  go_wp2_with fail
  refine (num_callsM _ _).mono ?_; rintro e w1 ⟨rfl, rfl⟩
  go_wp2_with fail
  refine (num_callsM _ _).mono ?_; rintro e w1 ⟨rfl, rfl⟩
  go_wp2_with fail
  refine (num_callsM _ _).mono ?_; rintro e w1 ⟨rfl, rfl⟩
  go_wp2_with fail
  refine (num_callsM _ _).mono ?_; rintro e w1 ⟨rfl, rfl⟩
  go_wp2_with fail
  refine (num_callsM _ _).mono ?_; rintro e w1 ⟨rfl, rfl⟩
  go_wp2_with fail
  go_ret
  exact ⟨rfl, k9⟩
theorem finds_bodyM (s c i a : Int) (h0 : 0 ≤ a) (h1 : a < 4294967296) (w : World) : Calls Tryz.prog 3 #[.agg #[.int .i64 s, .int .i64 c, .int .i64 i], .int .u32 a] w fun e w' => e = .returned (.bool true) ∧ Below w.heap.size w w' := by
  obtain ⟨w0, hw0⟩ : ∃ w0, w.alloc (.cells #[.int .i64 s, .int .i64 c, .int .i64 i] 23) = w0 := ⟨_, rfl⟩
  have hX : Blk w0 w.heap.size #[.int .i64 s, .int .i64 c, .int .i64 i] 23 := by rw [← hw0]; exact Blk.new w _ _
  have k : Below w.heap.size w w0 := by rw [← hw0]; exact (Below.refl _ w).alloc (Nat.le_refl _) _
  have d0 := hX.cell 0 (v := .int .i64 s) rfl
  have d1 := hX.cell 1 (v := .int .i64 c) rfl
  have d2 := hX.cell 2 (v := .int .i64 i) rfl
  go_enter Tryz.func3, Tryz.ntmps3
  go_wp2_with fail
  clear hw0
  refine (mAt_ok s c i _).mono ?_; rintro e w1 ⟨rfl, k1⟩
  have hX1 := hX.below k1 hX.lt
  replace k1 := k.trans (k1.mono k.size)
  clear d0 d1 d2 hX k
  have d0 := hX1.cell 0 (v := .int .i64 s) rfl
  have d1 := hX1.cell 1 (v := .int .i64 c) rfl
  have d2 := hX1.cell 2 (v := .int .i64 i) rfl
  by_cases hz : spE s c i = 0
  · have hao : atO s c i = atIM s c i := by unfold atO; rw [if_pos hz]
    obtain ⟨_, _, p2, p3⟩ := at_page hz
    have HU := Lib.hid (fun s' c' i' no' (hf : FindSp (atIM s c i) s' c' i' no') => hf.uniq (.inl ⟨rfl, hz, rfl⟩))
    rw [hz, hao]
    go_wp2_with fail
    refine (rAsks_okM s c i _).mono ?_; rintro e w2 ⟨rfl, k2⟩
    rw [hz]
    have hX2 := hX1.below k2 hX1.lt
    replace k2 := k1.trans (k2.mono k1.size)
    clear d0 d1 d2 hX1 k1
    have d0 := hX2.cell 0 (v := .int .i64 s) rfl
    have d1 := hX2.cell 1 (v := .int .i64 c) rfl
    have d2 := hX2.cell 2 (v := .int .i64 i) rfl
    go_wp2_with fail
    refine (num_callsM _ _).mono ?_; rintro e _ ⟨rfl, rfl⟩
    go_wp2_with fail
    refine (rAt_ok s c i hz _).mono ?_; rintro e w3 ⟨rfl, k3⟩
    have hX3 := hX2.below k3 hX2.lt
    replace k3 := k2.trans (k3.mono k2.size)
    clear d0 d1 d2 hX2 k2 hz hao
    have d0 := hX3.cell 0 (v := .int .i64 s) rfl
    have d1 := hX3.cell 1 (v := .int .i64 c) rfl
    have d2 := hX3.cell 2 (v := .int .i64 i) rfl
    have HFI := Lib.hid (fun W => mFind_ok (atIM s c i) p2 (by omega) W)
    generalize atIM s c i = y at *
    go_wp2_with fail
    refine (HFI.out _).mono ?_; rintro e w4 ⟨s', c', i', no', rfl, hf, k4⟩
    obtain ⟨rfl, rfl, rfl, rfl⟩ := HU.out _ _ _ _ hf
    have hX4 := hX3.below k4 hX3.lt
    replace k4 := k3.trans (k4.mono k3.size)
    clear d0 d1 d2 hX3 k3 hf HU HFI
    have d0 := hX4.cell 0 (v := .int .i64 s') rfl
    have d1 := hX4.cell 1 (v := .int .i64 c') rfl
    have d2 := hX4.cell 2 (v := .int .i64 i') rfl
    have z4 := hX4.lt
    go_wp2_with fail
    refine (num_callsM _ _).mono ?_; rintro e _ ⟨rfl, rfl⟩
    go_wp2_with fail
    obtain ⟨Y, hY⟩ : ∃ Y, w4.alloc (.cells #[.int .i64 s', .int .i64 c', .int .i64 i'] 23) = Y := ⟨_, rfl⟩
    have kY : Below w.heap.size w Y := by rw [← hY]; exact k4.alloc k4.size _
    rw [hY]
    clear hY k4 d0 d1 d2 hX4 z4
    refine (mFind_ok a h0 h1 _).mono ?_; rintro e Z ⟨fs, fc, fi, fn, rfl, hf, j⟩
    replace kY := kY.trans (j.mono kY.size)
    clear j
    have HF := Lib.hid hf
    clear hf
    go_wp2_with fail
    obtain ⟨Y1, hY1⟩ : ∃ Y, Z.alloc (.cells #[.int .i64 fs, .int .i64 fc, .int .i64 fi] 23) = Y := ⟨_, rfl⟩
    have hP : Blk Y1 Z.heap.size #[.int .i64 fs, .int .i64 fc, .int .i64 fi] 23 := by rw [← hY1]; exact Blk.new _ _ _
    have k1 : Below w.heap.size w Y1 := by rw [← hY1]; exact kY.alloc kY.size _
    rw [hY1]
    clear hY1 kY
    obtain ⟨bp, hbp⟩ : ∃ b, Z.heap.size = b := ⟨_, rfl⟩
    rw [hbp] at hP
    try simp only [hbp]
    clear hbp
    refine (rFind_ok a h0 h1 _).mono ?_; rintro e Z2 ⟨gs, gc, gi, gn, rfl, hg, j⟩
    obtain ⟨rfl, rfl, rfl, rfl⟩ := HF.out.uniq hg
    have hP2 := hP.below j hP.lt
    replace k1 := k1.trans (j.mono k1.size)
    clear j hg hP
    have p0 := hP2.cell 0 (v := .int .i64 fs) rfl
    have p1 := hP2.cell 1 (v := .int .i64 fc) rfl
    have p2' := hP2.cell 2 (v := .int .i64 fi) rfl
    have z2 := hP2.lt
    clear HF
    go_wp2_with fail
    go_wp2_with fail
    refine (num_callsM _ _).mono ?_; rintro e w1 ⟨rfl, rfl⟩
    go_wp2_with fail
    refine (works_okM _).mono ?_; rintro e Z3 ⟨rfl, j⟩
    go_wp2_with fail
    go_ret
    exact ⟨rfl, (k1.alloc k1.size _).trans (j.mono (by simp; have := k1.size; omega))⟩
  · have hao : atO s c i = 0 := by unfold atO; rw [if_neg hz]
    have hz1 : (spE s c i == 0) = false := by simpa using hz
    rw [hao]
    obtain ⟨q, hq⟩ : ∃ q, spE s c i = q := ⟨_, rfl⟩
    have HQ := Lib.hid hq
    rw [hq] at hz hz1 ⊢
    clear hq hao
    go_wp2_with fail
    refine (rAsks_okM s c i _).mono ?_; rintro e w2 ⟨rfl, k2⟩
    rw [HQ.out]
    have kY := k1.trans (k2.mono k1.size)
    clear d0 d1 d2 hX1 k1 k2
    go_wp2_with fail
    refine (num_callsM _ _).mono ?_; rintro e _ ⟨rfl, rfl⟩
    go_wp2_with fail
    refine (mFind_ok a h0 h1 _).mono ?_; rintro e Z ⟨fs, fc, fi, fn, rfl, hf, j⟩
    replace kY := kY.trans (j.mono kY.size)
    clear j
    have HF := Lib.hid hf
    clear hf
    go_wp2_with fail
    obtain ⟨Y1, hY1⟩ : ∃ Y, Z.alloc (.cells #[.int .i64 fs, .int .i64 fc, .int .i64 fi] 23) = Y := ⟨_, rfl⟩
    have hP : Blk Y1 Z.heap.size #[.int .i64 fs, .int .i64 fc, .int .i64 fi] 23 := by rw [← hY1]; exact Blk.new _ _ _
    have k1 : Below w.heap.size w Y1 := by rw [← hY1]; exact kY.alloc kY.size _
    rw [hY1]
    clear hY1 kY
    obtain ⟨bp, hbp⟩ : ∃ b, Z.heap.size = b := ⟨_, rfl⟩
    rw [hbp] at hP
    try simp only [hbp]
    clear hbp
    refine (rFind_ok a h0 h1 _).mono ?_; rintro e Z2 ⟨gs, gc, gi, gn, rfl, hg, j⟩
    obtain ⟨rfl, rfl, rfl, rfl⟩ := HF.out.uniq hg
    have hP2 := hP.below j hP.lt
    replace k1 := k1.trans (j.mono k1.size)
    clear j hg hP
    have p0 := hP2.cell 0 (v := .int .i64 fs) rfl
    have p1 := hP2.cell 1 (v := .int .i64 fc) rfl
    have p2' := hP2.cell 2 (v := .int .i64 fi) rfl
    have z2 := hP2.lt
    clear HF
    go_wp2_with fail
    go_wp2_with fail
    refine (num_callsM _ _).mono ?_; rintro e w1 ⟨rfl, rfl⟩
    go_wp2_with fail
    refine (works_okM _).mono ?_; rintro e Z3 ⟨rfl, j⟩
    go_wp2_with fail
    go_ret
    exact ⟨rfl, (k1.alloc k1.size _).trans (j.mono (by simp; have := k1.size; omega))⟩
end Go.Proofs.YtlpchcdalfkfcaaGreat

/-
  Package pinfoldlaw15: the memory; MetaSpoils. No condition.
-/
namespace Go.Proofs.YtlpchcdalfkfcaaGreat
open Go.RowKit Go.ChangeShapes
attribute [local go_sem] Oper.semAt_some
set_option maxHeartbeats 8000000
set_option maxRecDepth 8000

theorem memory_okM (w : World) : Calls Tryz.prog 14 #[] w fun e W => ∃ k : Mb, e = .returned (.tuple #[.pointer (some ⟨k.b, 0, none⟩), .bool true]) ∧ LivM w W k memS := by
  go_enter Tryz.func14, Tryz.ntmps14
  go_wp2_with fail
  refine (vNew_ok 100 (by decide) (by decide) w).mono ?_; rintro e W ⟨k, rfl, hm, hlo, _, hb⟩
  have L : LivM w W k ⟨100, [], [], []⟩ := ⟨hm, MGd.new 100 (by decide) (by decide), hb, hlo⟩
  clear hm hlo hb
  go_wp2_with fail
  refine (L.reserve 63 100).mono ?_; rintro e W2 ⟨rfl, L2, _⟩
  rw [show resErr (⟨100, [], [], []⟩ : Ms).many (⟨100, [], [], []⟩ : Ms).F (⟨100, [], [], []⟩ : Ms).R 63 100 = 0 by decide]
  rw [show ({ (⟨100, [], [], []⟩ : Ms) with R := resAfter (⟨100, [], [], []⟩ : Ms).many (⟨100, [], [], []⟩ : Ms).F (⟨100, [], [], []⟩ : Ms).R 63 100 } : Ms) = memS by decide] at L2
  go_wp2_with fail
  go_wp2_with fail
  refine (num_callsM _ _).mono ?_; rintro e w1 ⟨rfl, rfl⟩
  go_wp2_with fail
  refine (num_callsM _ _).mono ?_; rintro e w1 ⟨rfl, rfl⟩
  go_wp2_with fail
  go_ret2
  exact ⟨k, rfl, L2⟩
theorem wraps_u32M (n : Int) (h0 : 0 ≤ n) (h1 : n < 2 ^ 32) : IntKind.u32.wrap n = n := by rw [IntKind.wrap_u32]; omega
theorem or_lo (i : Nat) (a b : Int) (a0 : 0 ≤ a) (a1 : a < 2 ^ i) (a2 : a < 4294967296) (b0 : 0 ≤ b) (b1 : 2 ^ i * b < 4294967296) : bits BinOp.or IntKind.u32 a (2 ^ i * b) = a + 2 ^ i * b := by
  obtain ⟨x, rfl⟩ := Int.eq_ofNat_of_zero_le a0
  obtain ⟨y, rfl⟩ := Int.eq_ofNat_of_zero_le b0
  have e : (2 : Int) ^ i * (y : Int) = ((2 ^ i * y : Nat) : Int) := by push_cast; rfl
  rw [e] at b1 ⊢
  have x1 : x < 2 ^ i := by exact_mod_cast a1
  rw [(bits_nat .u32 32 (by decide) wraps_u32M x (2 ^ i * y) (by omega) (by omega)).2, Nat.or_comm, ← Nat.two_pow_add_eq_or_of_lt x1]
  push_cast
  omega
theorem nonce_or (a b c d : Int) (ha : 0 ≤ a ∧ a < 256) (hb : 0 ≤ b ∧ b < 256) (hc : 0 ≤ c ∧ c < 256) (hd : 0 ≤ d ∧ d < 256) :
    bits BinOp.or IntKind.u32 (bits BinOp.or IntKind.u32 (bits BinOp.or IntKind.u32 a (b * 256)) (c * 65536)) (d * 16777216) = a + 256 * (b + 256 * (c + 256 * d)) := by
  rw [show b * 256 = 2 ^ 8 * b by omega, show c * 65536 = 2 ^ 16 * c by omega, show d * 16777216 = 2 ^ 24 * d by omega,
    or_lo 8 a b (by omega) (by omega) (by omega) (by omega) (by omega), or_lo 16 _ c (by omega) (by omega) (by omega) (by omega) (by omega), or_lo 24 _ d (by omega) (by omega) (by omega) (by omega) (by omega)]
  omega
end Go.Proofs.YtlpchcdalfkfcaaGreat

/-
  Law frame: an array of bytes as the caller hands it in. No condition.
-/
namespace Go.Proofs.YtlpchcdalfkfcaaGreat
open Go.ChangeShapes Go.WideShapes Go.ChangeAt Go.RowKit
set_option maxHeartbeats 1000000
set_option maxRecDepth 8000

/-- An array of integers, by value. -/
theorem open_arrI {H : Type} {enc : TypeId × Value → H} {P : Program} {W : World} {base base' n : Nat} {spare : Nat → Bool} {held : Bool} {t e : TypeId} {k : IntKind} {v : Value} {d : DataW H} {p : List MemPlace} (ht : P.underlying t = some (.array n e)) (he : P.underlying e = some (.int k)) (hct : P.cellsOf t = n) (hce : P.cellsOf e = 1)
    (hv : Value.okWide P W .any base t v) (h : DataW.Trod enc P W base' spare held t v d p) :
    ∃ l : List Int, v = .agg (intVals k l).toArray ∧ l.length = n ∧ ∀ x ∈ l, (Lit.int k x).wf = true := by
  simp only [Value.okWide, ht] at hv
  obtain ⟨cs, rfl, hsz, _⟩ := hv
  obtain ⟨fuel, hf⟩ := h
  obtain ⟨xs, m, _, _, _, hl, hxs⟩ := DataW.trod_array ht hf
  rw [hct] at hsz
  have hc : ∀ i, i < n → ∃ y, cs[i]? = some (.int k y) ∧ (Lit.int k y).wf = true := by
    intro i hi
    have h0 := hxs i hi
    rw [hce, List.getElem?_eq_getElem (by omega)] at h0
    obtain ⟨y, hy, _, wf⟩ := DataW.trod_int he h0
    refine ⟨y, ?_, wf⟩
    have h1 := congrArg (fun l : List Value => l[0]?) hy
    simpa [Value.cells, List.getElem?_take, List.getElem?_drop] using h1
  have hex : ∃ f : Nat → Int, ∀ i, i < n → cs[i]? = some (.int k (f i)) ∧ (Lit.int k (f i)).wf = true := by
    refine ⟨fun i => if hi : i < n then Classical.choose (hc i hi) else 0, fun i hi => ?_⟩
    dsimp only
    rw [dif_pos hi]
    exact Classical.choose_spec (hc i hi)
  obtain ⟨f, hf'⟩ := hex
  refine ⟨(List.range n).map f, ?_, by simp, fun x hx => ?_⟩
  · congr 1
    refine Array.ext_getElem? fun i => ?_
    by_cases hi : i < n
    · rw [(hf' i hi).1]
      simp [intVals, hi]
    · rw [Array.getElem?_eq_none (by omega), Array.getElem?_eq_none (by simp [intVals]; omega)]
  · obtain ⟨i, hi, rfl⟩ := List.mem_map.1 hx
    exact (hf' i (List.mem_range.1 hi)).2
theorem RowAt.of_blk {B b n : Nat} {W : World} {cs : Array Value} {t : TypeId} (h : Blk W b cs t) (hB : b < B) (hn : cs.size = n) : RowAt B W (.slice (some ⟨b, 0, none⟩) n n) n cs.toList := by
  refine ⟨_, _, rfl, ⟨Nat.le_refl _, fun e => by cases e⟩, .inr ⟨b, 0, rfl, hB, fun i hi => ?_⟩⟩
  rw [Nat.zero_add]
  have hi' : i < cs.size := by simpa using hi
  rw [h.cell i (Array.getElem?_eq_getElem hi')]
  simp [hi']
end Go.Proofs.YtlpchcdalfkfcaaGreat
