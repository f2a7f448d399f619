/-
  'SealBack' returns true for every input, and leaves what it is given as it was. No condition.
-/
import Derived.Test.YtackenlfnecanaaSealO
namespace Go.Proofs.Ytackenlfnecanaa.sealBack
open Go.ChangeShapes Go.WideShapes Go.ChangeAt Go.RowKit Go.Proofs.Ytackenlfnecanaa
set_option linter.unusedVariables false
set_option maxHeartbeats 8000000
set_option maxRecDepth 8000

theorem xor8_ne (x y : Int) (hx : 0 ≤ x) (hx' : x < 256) (hy : 0 ≤ y) (hy' : y < 256) (h0 : y ≠ 0) : bits BinOp.xor IntKind.u8 x y ≠ x := by
  obtain ⟨a, rfl⟩ := Int.eq_ofNat_of_zero_le hx
  obtain ⟨b, rfl⟩ := Int.eq_ofNat_of_zero_le hy
  have hlt : a ^^^ b < 2 ^ 8 := Nat.xor_lt_two_pow (by omega) (by omega)
  have h1 : (BitVec.ofInt 8 (a : Int)).toNat = a := by rw [BitVec.ofInt_natCast, BitVec.toNat_ofNat]; exact Nat.mod_eq_of_lt (by omega)
  have h2 : (BitVec.ofInt 8 (b : Int)).toNat = b := by rw [BitVec.ofInt_natCast, BitVec.toNat_ofNat]; exact Nat.mod_eq_of_lt (by omega)
  have h3 : bits BinOp.xor IntKind.u8 (a : Int) (b : Int) = ((a ^^^ b : Nat) : Int) := by
    show IntKind.u8.wrap ((BitVec.ofInt 8 (a : Int) ^^^ BitVec.ofInt 8 (b : Int)).toNat : Int) = _
    rw [BitVec.toNat_xor, h1, h2, IntKind.wrap_u8]
    omega
  rw [h3]
  intro h
  have h4 : a ^^^ b = a := by exact_mod_cast h
  have h5 := congrArg (a ^^^ ·) h4
  simp only [← Nat.xor_assoc, Nat.xor_self, Nat.zero_xor] at h5
  omega
def same3 (a b c a' b' c' : Int) : Bool := decide (a = a' ∧ b = b' ∧ c = c')
theorem same3_iff (a b c a' b' c' : Int) : same3 a b c a' b' c' = true ↔ a = a' ∧ b = b' ∧ c = c' := by simp [same3]
structure OtherS (w : World) (c s n c' s' n' : Int) (v7 vh v8 vt : Value) (U H V T : List Int) (Y : World) : Prop where
  t3 : Y.cell? ⟨w.heap.size + 1, 3, none⟩ = some (.int .i64 c')
  t4 : Y.cell? ⟨w.heap.size + 1, 4, none⟩ = some (.int .i64 s')
  t5 : Y.cell? ⟨w.heap.size + 1, 5, none⟩ = some (.int .u32 n')
  x0 : Y.cell? ⟨w.heap.size + 3, 0, none⟩ = some (.int .i64 c)
  x1 : Y.cell? ⟨w.heap.size + 3, 1, none⟩ = some (.int .i64 s)
  x2 : Y.cell? ⟨w.heap.size + 3, 2, none⟩ = some (.int .u32 n)
  cu : (convert 28 9 v7).run Try.prog Y = .ok (.string (strOfNums U)) Y
  ch : (convert 28 9 vh).run Try.prog Y = .ok (.string (strOfNums H)) Y
  cv : (convert 28 9 v8).run Try.prog Y = .ok (.string (strOfNums V)) Y
  ct : (convert 28 9 vt).run Try.prog Y = .ok (.string (strOfNums T)) Y
theorem eq3 (a b c a' b' c' : Int) (q : Bool) (W : World) (hq : same3 a b c a' b' c' = q) : (if a = a' then if b = b' then if c = c' then Result.ok (Next.value (.bool true)) W else Result.ok (Next.value (.bool false)) W else Result.ok (Next.value (.bool false)) W else Result.ok (Next.value (.bool false)) W)
    = Result.ok (Next.value (.bool q)) W := by
  subst hq
  unfold same3
  by_cases h1 : a = a' <;> by_cases h2 : b = b' <;> by_cases h3 : c = c' <;> simp [h1, h2, h3]
theorem laid (w : World) (key at_ c s n c' s' n' a b : Int) : ∃ w0, (((w.alloc (.cells #[.int .u64 key, .int .u32 at_] 25)).alloc (.cells #[.int .i64 c, .int .i64 s, .int .u32 n, .int .i64 c', .int .i64 s', .int .u32 n'] 49)).alloc (.cells #[.int .i64 a, .int .i64 b] 50)) = w0 ∧
    Blk w0 w.heap.size #[.int .u64 key, .int .u32 at_] 25 ∧ Blk w0 (w.heap.size + 1) #[.int .i64 c, .int .i64 s, .int .u32 n, .int .i64 c', .int .i64 s', .int .u32 n'] 49 ∧ Blk w0 (w.heap.size + 1 + 1) #[.int .i64 a, .int .i64 b] 50 ∧ Below w.heap.size w w0 ∧ w0.heap.size = w.heap.size + 3 :=
  ⟨_, rfl, ((Blk.new w _ _).alloc _).alloc _, (Blk.newAt _ _ _ (by simp)).alloc _, Blk.newAt _ _ _ (by simp), (((Below.refl _ w).alloc (Nat.le_refl _) _).alloc (by simp) _).alloc (by simp; omega) _, by simp⟩
structure BackS (w : World) (key at_ c s n c' s' n' a b : Int) (Y : World) : Prop where
  pl : Blk Y w.heap.size #[.int .u64 key, .int .u32 at_] 25
  ta : Blk Y (w.heap.size + 1) #[.int .i64 c, .int .i64 s, .int .u32 n, .int .i64 c', .int .i64 s', .int .u32 n'] 49
  be : Blk Y (w.heap.size + 1 + 1) #[.int .i64 a, .int .i64 b] 50
  ti : Blk Y (w.heap.size + 3) #[.int .i64 c, .int .i64 s, .int .u32 n] 27
  bel : Below w.heap.size w Y
  sz : w.heap.size + 4 ≤ Y.heap.size
section
variable {w Y Y' : World} {key at_ c s n c' s' n' a b : Int}
theorem BackS.below {m : Nat} (h : BackS w key at_ c s n c' s' n' a b Y) (k : Below m Y Y') (hm : w.heap.size + 4 ≤ m) : BackS w key at_ c s n c' s' n' a b Y' :=
  ⟨h.pl.below k (by omega), h.ta.below k (by omega), h.be.below k (by omega), h.ti.below k (by omega), h.bel.trans (k.mono (by omega)), Nat.le_trans h.sz k.size⟩
theorem BackS.step (h : BackS w key at_ c s n c' s' n' a b Y) (k : Below Y.heap.size Y Y') : BackS w key at_ c s n c' s' n' a b Y' := h.below k h.sz
theorem BackS.alloc (h : BackS w key at_ c s n c' s' n' a b Y) (o : Obj) : BackS w key at_ c s n c' s' n' a b (Y.alloc o) := h.step ((Below.refl _ Y).alloc (Nat.le_refl _) o)
theorem BackS.cells (h : BackS w key at_ c s n c' s' n' a b Y) : Y.cell? ⟨w.heap.size, 0, none⟩ = some (.int .u64 key) ∧ Y.cell? ⟨w.heap.size, 1, none⟩ = some (.int .u32 at_) ∧
    Y.cell? ⟨w.heap.size + 3, 0, none⟩ = some (.int .i64 c) ∧ Y.cell? ⟨w.heap.size + 3, 1, none⟩ = some (.int .i64 s) ∧ Y.cell? ⟨w.heap.size + 3, 2, none⟩ = some (.int .u32 n) :=
  ⟨h.pl.cell 0 rfl, h.pl.cell 1 rfl, h.ti.cell 0 rfl, h.ti.cell 1 rfl, h.ti.cell 2 rfl⟩
theorem BackS.other (h : BackS w key at_ c s n c' s' n' a b Y) : Y.cell? ⟨w.heap.size + 1, 3, none⟩ = some (.int .i64 c') ∧ Y.cell? ⟨w.heap.size + 1, 4, none⟩ = some (.int .i64 s') ∧ Y.cell? ⟨w.heap.size + 1, 5, none⟩ = some (.int .u32 n') :=
  ⟨h.ta.cell 3 rfl, h.ta.cell 4 rfl, h.ta.cell 5 rfl⟩
end
theorem body (key at_ c s n c' s' n' a b : Int) (hk : 0 ≤ key) (hk' : key < 18446744073709551616) (ha : 0 ≤ at_) (ha' : at_ < 4294967296) (hn : 0 ≤ n) (hn' : n < 4294967296) (hm : 0 ≤ n') (hm' : n' < 4294967296) (w : World) :
    Calls Try.prog 6 #[.agg #[.int .u64 key, .int .u32 at_], .agg #[.int .i64 c, .int .i64 s, .int .u32 n, .int .i64 c', .int .i64 s', .int .u32 n'], .agg #[.int .i64 a, .int .i64 b]] w fun e w' => e = .returned (.bool true) ∧ Below w.heap.size w w' := by
  obtain ⟨w0, hw0, hP, hT, hB, hb0, hz0⟩ := laid w key at_ c s n c' s' n' a b
  obtain ⟨w1, hw1⟩ : ∃ w1, w0.alloc (.cells #[.int .i64 c, .int .i64 s, .int .u32 n] 27) = w1 := ⟨_, rfl⟩
  have hX1 : Blk w1 w0.heap.size #[.int .i64 c, .int .i64 s, .int .u32 n] 27 := by rw [← hw1]; exact Blk.new w0 _ _
  have hP1 : Blk w1 w.heap.size #[.int .u64 key, .int .u32 at_] 25 := by rw [← hw1]; exact hP.alloc _
  have hT1 : Blk w1 (w.heap.size + 1) #[.int .i64 c, .int .i64 s, .int .u32 n, .int .i64 c', .int .i64 s', .int .u32 n'] 49 := by rw [← hw1]; exact hT.alloc _
  have hB1 : Blk w1 (w.heap.size + 1 + 1) #[.int .i64 a, .int .i64 b] 50 := by rw [← hw1]; exact hB.alloc _
  have hb1 : Below w.heap.size w w1 := by rw [← hw1]; exact hb0.alloc hb0.size _
  rw [hz0] at hX1
  have t0 : w0.cell? ⟨w.heap.size + 1, 0, none⟩ = some (.int .i64 c) := hT.cell 0 rfl
  have t1 : w0.cell? ⟨w.heap.size + 1, 1, none⟩ = some (.int .i64 s) := hT.cell 1 rfl
  have t2 : w0.cell? ⟨w.heap.size + 1, 2, none⟩ = some (.int .u32 n) := hT.cell 2 rfl
  obtain ⟨x0, x1, x2⟩ := tag3 hX1
  have p0 : w1.cell? ⟨w.heap.size, 0, none⟩ = some (.int .u64 key) := hP1.cell 0 rfl
  have p1 : w1.cell? ⟨w.heap.size, 1, none⟩ = some (.int .u32 at_) := hP1.cell 1 rfl
  have z1 := hX1.lt
  clear hP hT hB
  go_enter Try.func6, Try.ntmps6
  go_wp2_with fail
  have B1 : BackS w key at_ c s n c' s' n' a b w1 := ⟨hP1, hT1, hB1, hX1, hb1, by omega⟩
  clear hw0 hw1 t0 t1 t2 x0 x1 x2 p0 p1 hX1 hP1 hT1 hB1 hb1 hb0 hz0
  refine (Head_ok key at_ c s n ha ha' hn hn' _).mono ?_; rintro e w2 ⟨v2, e2, rfl, hr2, h2⟩
  have B2 := B1.step h2
  obtain ⟨p0, p1, x0, x1, x2⟩ := B2.cells
  have z2 := h2.size
  clear h2
  go_wp2_with fail
  refine (Tail_ok key at_ c s n ha ha' hn hn' _).mono ?_; rintro e w3 ⟨v3, e3, rfl, hr3, h3⟩
  have B3 := B2.step h3
  clear p0 p1 x0 x1 x2
  have z3 := h3.size
  cases hr : rightI c s
  · obtain ⟨rfl, rfl⟩ := hr2.2 hr
    obtain ⟨rfl, rfl⟩ := hr3.2 hr
    go_wp2_with fail
    refine (num_calls _ _).mono ?_; rintro e w' ⟨rfl, rfl⟩
    go_wp2_with fail
    refine (num_calls _ _).mono ?_; rintro e w' ⟨rfl, rfl⟩
    go_wp2_with fail
    refine (num_calls _ _).mono ?_; rintro e w' ⟨rfl, rfl⟩
    go_wp2_with fail
    refine (works_ok _).mono ?_; rintro e w5 ⟨rfl, h5⟩
    go_wp2_with fail
    go_ret
    exact ⟨rfl, (B3.step h5).bel⟩
  obtain ⟨rfl, ho2⟩ := hr2.1 hr
  obtain ⟨rfl, ho3⟩ := hr3.1 hr
  clear hr2 hr3
  obtain ⟨g2, cp2, rfl⟩ := ownsRow_succ ho2
  obtain ⟨g3, cp3, rfl⟩ := ownsRow_succ ho3
  have hlt2 : w1.heap.size ≤ g2 ∧ g2 < w2.heap.size := ⟨(owns_slice ho2).1, (owns_slice ho2).2.1⟩
  have hlt3 : w2.heap.size ≤ g3 ∧ g3 < w3.heap.size := ⟨(owns_slice ho3).1, (owns_slice ho3).2.1⟩
  obtain ⟨H, hH⟩ : ∃ H, sealB (foldI [key, at_]) (wordI c s n) = H := ⟨_, rfl⟩
  obtain ⟨T, hT⟩ : ∃ T, sealB (foldI [at_, key]) (wordI c s n) = T := ⟨_, rfl⟩
  have hHl : H.length = 16 := by rw [← hH]; exact sealB_len _ _
  have hTl : T.length = 16 := by rw [← hT]; exact sealB_len _ _
  have hokH : okI key at_ H = true := by rw [← hH]; exact ok_seal key at_ c s n hr hn hn'
  have hsdH : saidI key at_ H = wordI c s n := by rw [← hH]; exact said_seal key at_ c s n hr hn hn'
  have hpw := parts_word c s n hr hn hn'
  have HHb := Lib.hid (show ∀ x ∈ H, 0 ≤ x ∧ x < 256 by rw [← hH]; exact sealB_bytes _ _)
  have HTb := Lib.hid (show ∀ x ∈ T, 0 ≤ x ∧ x < 256 by rw [← hT]; exact sealB_bytes _ _)
  rw [hH] at ho2
  rw [hT] at ho3
  have HH := Lib.hid hH
  have HT := Lib.hid hT
  have HL := fun (u v : Value) (h l : List Int) (B : Nat) (W : World) => Look_yes key at_ c s n ha ha' hn hn' hr u v h l
  rw [hH, hT] at HL
  clear hH hT
  have oh3 : w3.ownsRow w1.heap.size 5 1 (.slice (some ⟨g2, 0, none⟩) 16 cp2) 16 (intVals .u8 H) := owns_below ho2 h3 (Nat.le_refl _)
  have ol3 : w3.ownsRow w2.heap.size 5 1 (.slice (some ⟨g3, 0, none⟩) 16 cp3) 16 (intVals .u8 T) := ho3
  have rh3 : RowAt w3.heap.size w3 (.slice (some ⟨g2, 0, none⟩) 16 cp2) H.length (intVals .u8 H) := by rw [hHl]; exact RowAt.of_owns oh3 (Nat.le_refl _)
  clear ho2 ho3 h3
  obtain ⟨p0, p1, x0, x1, x2⟩ := B3.cells
  go_wp2_with fail
  refine (num_calls _ _).mono ?_; rintro e w' ⟨rfl, rfl⟩
  go_wp2_with fail
  refine (Open_ok key at_ ha ha' _ H HHb.out (by rw [hHl]; unfold maxLen; omega) _ _ (Nat.le_refl _) rh3).mono ?_; rintro e w4 ⟨c4, s4, n4, e4, rfl, h4, _, _, hop⟩
  obtain ⟨hc, hs, hn4, rfl⟩ := hop hHl hokH
  rw [hsdH, hpw.1] at hc
  rw [hsdH, hpw.2.1] at hs
  rw [hsdH, hpw.2.2] at hn4
  subst hc hs hn4
  clear hop p0 p1 x0 x1 x2 rh3
  have B4 := B3.step h4
  have z4 := h4.size
  have oh4 := owns_below oh3 h4 (Nat.le_refl _)
  have ol4 := owns_below ol3 h4 (Nat.le_refl _)
  clear B3 oh3 ol3 h4
  obtain ⟨w5, hw5⟩ : ∃ w5, w4.alloc (.cells #[.int .i64 c4, .int .i64 s4, .int .u32 n4] 27) = w5 := ⟨_, rfl⟩
  have hO5 : Blk w5 w4.heap.size #[.int .i64 c4, .int .i64 s4, .int .u32 n4] 27 := by rw [← hw5]; exact Blk.new w4 _ _
  have h5 : Below w4.heap.size w4 w5 := by rw [← hw5]; exact (Below.refl _ w4).alloc (Nat.le_refl _) _
  have B5 := B4.step h5
  have z5 := h5.size
  have oh5 := owns_below oh4 h5 (Nat.le_refl _)
  have ol5 := owns_below ol4 h5 (Nat.le_refl _)
  have rh5 : RowAt w5.heap.size w5 (.slice (some ⟨g2, 0, none⟩) 16 cp2) H.length (intVals .u8 H) := by rw [hHl]; exact RowAt.of_owns oh5 (Nat.le_refl _)
  have rl5 : RowAt w5.heap.size w5 (.slice (some ⟨g3, 0, none⟩) 16 cp3) T.length (intVals .u8 T) := by rw [hTl]; exact RowAt.of_owns ol5 (Nat.le_refl _)
  clear B4 oh4 ol4 h5
  obtain ⟨p0, p1, x0, x1, x2⟩ := B5.cells
  go_wp2_with fail
  clear hw5
  refine (HL _ _ H T 0 w (by rw [hHl]; unfold maxLen; omega) (by rw [hTl]; unfold maxLen; omega) _ _ (Nat.le_refl _) rh5 rl5).mono ?_; rintro e w6 ⟨rfl, h6⟩
  rw [show lookI H T H T = 0 by simp [lookI]]
  have B6 := B5.step h6
  have z6 := h6.size
  have oh6 := owns_below oh5 h6 (Nat.le_refl _)
  have ol6 := owns_below ol5 h6 (Nat.le_refl _)
  have hO6 := hO5.below h6 hO5.lt
  clear B5 oh5 ol5 h6 hO5 rh5 rl5 p0 p1 x0 x1 x2
  obtain ⟨p0, p1, x0, x1, x2⟩ := B6.cells
  obtain ⟨y0, y1, y2⟩ := tag3 hO6
  obtain ⟨t3, t4, t5⟩ := B6.other
  go_wp2_with fail
  refine (num_calls _ _).mono ?_; rintro e w' ⟨rfl, rfl⟩
  go_wp2_with fail
  refine (num_calls _ _).mono ?_; rintro e w' ⟨rfl, rfl⟩
  go_wp2_with fail
  refine (num_calls _ _).mono ?_; rintro e w' ⟨rfl, rfl⟩
  go_wp2_with fail
  refine (Head_ok key at_ c' s' n' ha ha' hm hm' _).mono ?_; rintro e w7 ⟨v7, e7, rfl, hr7, h7⟩
  have B7 := B6.step h7
  have z7 := h7.size
  have oh7 := owns_below oh6 h7 (Nat.le_refl _)
  have ol7 := owns_below ol6 h7 (Nat.le_refl _)
  clear B6 oh6 ol6 p0 p1 x0 x1 x2 y0 y1 y2 t3 t4 t5 hO6
  cases hr' : rightI c' s'
  · obtain ⟨rfl, rfl⟩ := hr7.2 hr'
    clear h7
    go_wp2_with fail
    refine (num_calls _ _).mono ?_; rintro e w' ⟨rfl, rfl⟩
    go_wp2_with fail
    have HBc := Lib.hid (fun (Y : World) (k : Below w7.heap.size w7 Y) => (⟨B7.step k, (B7.step k).be.cell 0 rfl, (B7.step k).be.cell 1 rfl⟩ : BackS w key at_ c4 s4 n4 c' s' n' a b Y ∧ Y.cell? ⟨w.heap.size + 1 + 1, 0, none⟩ = some (.int .i64 a) ∧ Y.cell? ⟨w.heap.size + 1 + 1, 1, none⟩ = some (.int .i64 b)))
    refine wp_region_held_drew (S := fun Y => BackS w key at_ c4 s4 n4 c' s' n' a b Y ∧ Y.cell? ⟨w.heap.size + 1 + 1, 0, none⟩ = some (.int .i64 a) ∧ Y.cell? ⟨w.heap.size + 1 + 1, 1, none⟩ = some (.int .i64 b)) (by kernel_rfl) (HBc.out _ (Below.refl _ w7).drew) (fun hHeld => ?_)
    refine wpAnyH_take (i := 0) (v := ?_) rfl (by kernel_rfl) (by kernel_rfl) (by kernel_rfl) (fun _ _ _ h => h) (Or.inl ⟨by rfl, ?_⟩) (by assumption) ?_
    rotate_left
    · (intro Y hSw; (try dsimp only at hSw); obtain ⟨hS0, hS1, hS2⟩ := hSw; go_simp; try with_reducible rfl)
    try simp only [Act.put, List.getElem_toArray, List.getElem_cons_zero, List.getElem_cons_succ, List.setIfInBounds_toArray, List.set_cons_zero, List.set_cons_succ]
    refine wpAnyH_take (i := 1) (v := ?_) rfl (by kernel_rfl) (by kernel_rfl) (by kernel_rfl) (fun _ _ _ h => h) (Or.inl ⟨by rfl, ?_⟩) (by assumption) ?_
    rotate_left
    · (intro Y hSw; (try dsimp only at hSw); obtain ⟨hS0, hS1, hS2⟩ := hSw; go_simp; try with_reducible rfl)
    try simp only [Act.put, List.getElem_toArray, List.getElem_cons_zero, List.getElem_cons_succ, List.setIfInBounds_toArray, List.set_cons_zero, List.set_cons_succ]
    refine wpAnyH_take (i := 2) (v := ?_) rfl (by kernel_rfl) (by kernel_rfl) (by kernel_rfl) (fun _ _ _ h => h) (Or.inl ⟨by rfl, ?_⟩) (by assumption) ?_
    rotate_left
    · (intro Y hSw; (try dsimp only at hSw); obtain ⟨hS0, hS1, hS2⟩ := hSw; go_simp; try with_reducible rfl)
    try simp only [Act.put, List.getElem_toArray, List.getElem_cons_zero, List.getElem_cons_succ, List.setIfInBounds_toArray, List.set_cons_zero, List.set_cons_succ]
    refine wpAnyH_take (i := 3) (v := ?_) rfl (by kernel_rfl) (by kernel_rfl) (by kernel_rfl) (fun _ _ _ h => h) (Or.inl ⟨by rfl, ?_⟩) (by assumption) ?_
    rotate_left
    · (intro Y hSw; (try dsimp only at hSw); obtain ⟨hS0, hS1, hS2⟩ := hSw; go_simp; try with_reducible rfl)
    try simp only [Act.put, List.getElem_toArray, List.getElem_cons_zero, List.getElem_cons_succ, List.setIfInBounds_toArray, List.set_cons_zero, List.set_cons_succ]
    refine wpAnyH_take (i := 4) (v := ?_) rfl (by kernel_rfl) (by kernel_rfl) (by kernel_rfl) (fun _ _ _ h => h) (Or.inl ⟨by rfl, ?_⟩) (by assumption) ?_
    rotate_left
    · (intro Y hSw; (try dsimp only at hSw); obtain ⟨hS0, hS1, hS2⟩ := hSw; go_simp; try with_reducible rfl)
    try simp only [Act.put, List.getElem_toArray, List.getElem_cons_zero, List.getElem_cons_succ, List.setIfInBounds_toArray, List.set_cons_zero, List.set_cons_succ]
    refine wpAnyH_take (i := 5) (v := ?_) rfl (by kernel_rfl) (by kernel_rfl) (by kernel_rfl) (fun _ _ _ h => h) (Or.inl ⟨by rfl, ?_⟩) (by assumption) ?_
    rotate_left
    · (intro Y hSw; (try dsimp only at hSw); obtain ⟨hS0, hS1, hS2⟩ := hSw; go_simp; try with_reducible rfl)
    try simp only [Act.put, List.getElem_toArray, List.getElem_cons_zero, List.getElem_cons_succ, List.setIfInBounds_toArray, List.set_cons_zero, List.set_cons_succ]
    refine wpAnyH_take (i := 6) (v := ?_) rfl (by kernel_rfl) (by kernel_rfl) (by kernel_rfl) (fun _ _ _ h => h) (Or.inl ⟨by rfl, ?_⟩) (by assumption) ?_
    rotate_left
    · (intro Y hSw; (try dsimp only at hSw); obtain ⟨hS0, hS1, hS2⟩ := hSw; go_simp; try with_reducible rfl)
    try simp only [Act.put, List.getElem_toArray, List.getElem_cons_zero, List.getElem_cons_succ, List.setIfInBounds_toArray, List.set_cons_zero, List.set_cons_succ]
    refine wpAnyH_take (i := 7) (v := ?_) rfl (by kernel_rfl) (by kernel_rfl) (by kernel_rfl) (fun _ _ _ h => h) (Or.inl ⟨by rfl, ?_⟩) (by assumption) ?_
    rotate_left
    · (intro Y hSw; (try dsimp only at hSw); obtain ⟨hS0, hS1, hS2⟩ := hSw; go_simp; try with_reducible rfl)
    try simp only [Act.put, List.getElem_toArray, List.getElem_cons_zero, List.getElem_cons_succ, List.setIfInBounds_toArray, List.set_cons_zero, List.set_cons_succ]
    refine wpAnyH_done (by kernel_rfl) ?_ _
    have kr := (Below.refl w7.heap.size w7).drew
    generalize w7.drew = wr at kr hHeld ⊢
    clear hHeld HBc
    have Br := B7.step kr
    have zr := kr.size
    have ohr := owns_below oh7 kr (Nat.le_refl _)
    have olr := owns_below ol7 kr (Nat.le_refl _)
    clear B7 oh7 ol7 kr
    obtain ⟨y, hy⟩ : ∃ y, bits BinOp.and IntKind.i64 b 255 % 256 = y := ⟨_, rfl⟩
    have hyb : 0 ≤ y ∧ y < 256 := by omega
    by_cases hbad : (a < 0 ∨ 31 < a) ∨ y = 0
    · have hyb0 : (y == 0) = decide (y = 0) := by rw [Bool.eq_iff_iff]; simp
      rcases hbad with (h9 | h9) | h9
      · go_wp2_with fail
        refine (works_ok _).mono ?_; rintro e wx ⟨rfl, hx⟩
        go_wp2_with fail
        go_ret
        exact ⟨rfl, (Br.step hx).bel⟩
      · have h8 : ¬ a < 0 := by omega
        go_wp2_with fail
        refine (works_ok _).mono ?_; rintro e wx ⟨rfl, hx⟩
        go_wp2_with fail
        go_ret
        exact ⟨rfl, (Br.step hx).bel⟩
      · by_cases h8 : a < 0
        · go_wp2_with fail
          refine (works_ok _).mono ?_; rintro e wx ⟨rfl, hx⟩
          go_wp2_with fail
          go_ret
          exact ⟨rfl, (Br.step hx).bel⟩
        · by_cases h7 : 31 < a
          · go_wp2_with fail
            refine (works_ok _).mono ?_; rintro e wx ⟨rfl, hx⟩
            go_wp2_with fail
            go_ret
            exact ⟨rfl, (Br.step hx).bel⟩
          · have h9' : (y == 0) = true := by simp [h9]
            go_wp2_with fail
            refine (works_ok _).mono ?_; rintro e wx ⟨rfl, hx⟩
            go_wp2_with fail
            go_ret
            exact ⟨rfl, (Br.step hx).bel⟩
    have hb0 : ¬ a < 0 := by omega
    have hb1 : ¬ 31 < a := by omega
    have hy0 : y ≠ 0 := by omega
    have hyf : (y == 0) = false := by simpa using hy0
    clear hbad
    by_cases h16 : a < 16
    · obtain ⟨i, rfl⟩ : ∃ i : Nat, a = i := ⟨a.toNat, by omega⟩
      have hi : i < 16 := by omega
      have i0 : (0 : Int) ≤ (i : Int) := by omega
      obtain ⟨x, hx⟩ : ∃ x, H.getD i 0 = x := ⟨_, rfl⟩
      have hxb : 0 ≤ x ∧ x < 256 := by
        rw [← hx, List.getD_eq_getElem?_getD, List.getElem?_eq_getElem (by omega)]
        exact HHb.out _ (List.getElem_mem _)
      obtain ⟨x', hx'⟩ : ∃ x', bits BinOp.xor IntKind.u8 x y = x' := ⟨_, rfl⟩
      have hxn := xor8_ne x y hxb.1 hxb.2 hyb.1 hyb.2 hy0
      rw [hx'] at hxn
      have cx : wr.cell? ⟨g2, i, none⟩ = some (.int .u8 x) := by
        rw [ohr.cellAt i (by omega), intVals_get _ _ _ (by omega), ← hx]
        simp [List.getD, hHl, hi]
      have fx : wr.frozen? ⟨g2, i, none⟩ = false := ohr.frozenAt i
      have hset : H.set i x' ≠ H := by
        intro h9
        have h8 := congrArg (fun l : List Int => l.getD i 0) h9
        simp only [hx] at h8
        rw [List.getD_eq_getElem?_getD, List.getElem?_set_self (by omega)] at h8
        exact hxn h8
      have HLK := Lib.hid (show lookI (H.set i x') T H T = 1 by simp [lookI, hset])
      clear hset hx
      have kq : ∀ z, Below w1.heap.size wr (wr.setCell ⟨g2, i, none⟩ z) := fun z => (Below.refl _ wr).setCell (p := ⟨g2, i, none⟩) (by dsimp only; omega) _
      have Bq : ∀ z, BackS w key at_ c4 s4 n4 c' s' n' i b (wr.setCell ⟨g2, i, none⟩ z) := fun z => Br.below (kq z) (by omega)
      have q0 := fun z => (Bq z).cells.1
      have q1 := fun z => (Bq z).cells.2.1
      have q2 := fun z => (Bq z).cells.2.2.1
      have q3 := fun z => (Bq z).cells.2.2.2.1
      have q4 := fun z => (Bq z).cells.2.2.2.2
      have ohq := own_set ohr i x'
      have olq : (wr.setCell ⟨g2, i, none⟩ (.int .u8 x')).ownsRow w2.heap.size 5 1 (.slice (some ⟨g3, 0, none⟩) 16 cp3) 16 (intVals .u8 T) := ownsRow_setCell_below olr (a := ⟨g2, i, none⟩) (by dsimp only; omega) _
      have rhq : RowAt wr.heap.size (wr.setCell ⟨g2, i, none⟩ (.int .u8 x')) (.slice (some ⟨g2, 0, none⟩) 16 cp2) (H.set i x').length (intVals .u8 (H.set i x')) := by rw [List.length_set, hHl]; exact RowAt.of_owns ohq (by simp)
      have rlq : RowAt wr.heap.size (wr.setCell ⟨g2, i, none⟩ (.int .u8 x')) (.slice (some ⟨g3, 0, none⟩) 16 cp3) T.length (intVals .u8 T) := by rw [hTl]; exact RowAt.of_owns olq (by simp)
      clear ohq olq ohr olr Br
      go_wp2_with fail
      refine (HL _ _ (H.set i x') T 0 w (by rw [List.length_set, hHl]; unfold maxLen; omega) (by rw [hTl]; unfold maxLen; omega) _ _ (by simp) rhq rlq).mono ?_; rintro e wx ⟨rfl, hxx⟩
      rw [HLK.out]
      have Bx := (Bq _).step hxx
      clear q0 q1 q2 q3 q4 cx fx kq Bq rhq rlq hxx
      go_wp2_with fail
      refine (num_calls _ _).mono ?_; rintro e w' ⟨rfl, rfl⟩
      go_wp2_with fail
      refine (works_ok _).mono ?_; rintro e wy ⟨rfl, hyy⟩
      go_wp2_with fail
      go_ret
      exact ⟨rfl, (Bx.step hyy).bel⟩
    · obtain ⟨i, hia⟩ : ∃ i : Nat, a - 16 = i := ⟨(a - 16).toNat, by omega⟩
      have hi : i < 16 := by omega
      have i0 : (0 : Int) ≤ (i : Int) := by omega
      have i1 : (i : Int) < 16 := by omega
      obtain ⟨x, hx⟩ : ∃ x, T.getD i 0 = x := ⟨_, rfl⟩
      have hxb : 0 ≤ x ∧ x < 256 := by
        rw [← hx, List.getD_eq_getElem?_getD, List.getElem?_eq_getElem (by omega)]
        exact HTb.out _ (List.getElem_mem _)
      obtain ⟨x', hx'⟩ : ∃ x', bits BinOp.xor IntKind.u8 x y = x' := ⟨_, rfl⟩
      have hxn := xor8_ne x y hxb.1 hxb.2 hyb.1 hyb.2 hy0
      rw [hx'] at hxn
      have cx : wr.cell? ⟨g3, i, none⟩ = some (.int .u8 x) := by
        rw [olr.cellAt i (by omega), intVals_get _ _ _ (by omega), ← hx]
        simp [List.getD, hTl, hi]
      have fx : wr.frozen? ⟨g3, i, none⟩ = false := olr.frozenAt i
      have hset : T.set i x' ≠ T := by
        intro h9
        have h8 := congrArg (fun l : List Int => l.getD i 0) h9
        simp only [hx] at h8
        rw [List.getD_eq_getElem?_getD, List.getElem?_set_self (by omega)] at h8
        exact hxn h8
      have HLK := Lib.hid (show lookI H (T.set i x') H T = 2 by simp [lookI, hset])
      clear hset hx
      have kq : ∀ z, Below w2.heap.size wr (wr.setCell ⟨g3, i, none⟩ z) := fun z => (Below.refl _ wr).setCell (p := ⟨g3, i, none⟩) (by dsimp only; omega) _
      have Bq : ∀ z, BackS w key at_ c4 s4 n4 c' s' n' a b (wr.setCell ⟨g3, i, none⟩ z) := fun z => Br.below (kq z) (by omega)
      have q0 := fun z => (Bq z).cells.1
      have q1 := fun z => (Bq z).cells.2.1
      have q2 := fun z => (Bq z).cells.2.2.1
      have q3 := fun z => (Bq z).cells.2.2.2.1
      have q4 := fun z => (Bq z).cells.2.2.2.2
      have olq := own_set olr i x'
      have rhr : RowAt w2.heap.size wr (.slice (some ⟨g2, 0, none⟩) 16 cp2) H.length (intVals .u8 H) := by
        rw [hHl]
        obtain ⟨_, _, hrw, hc9, hrow⟩ := RowAt.of_owns ohr (Nat.le_refl _)
        refine ⟨_, _, hrw, hc9, hrow.imp id ?_⟩
        rintro ⟨b9, off9, e9, _, hcc⟩
        subst e9
        simp only [Value.slice.injEq, Option.some.injEq, Addr.mk.injEq, and_true, true_and] at hrw
        refine ⟨b9, off9, rfl, by omega, hcc⟩
      have rhq : RowAt wr.heap.size (wr.setCell ⟨g3, i, none⟩ (.int .u8 x')) (.slice (some ⟨g2, 0, none⟩) 16 cp2) H.length (intVals .u8 H) := (rhr.below (kq _) (Nat.le_refl _)).mono (by omega)
      have rlq : RowAt wr.heap.size (wr.setCell ⟨g3, i, none⟩ (.int .u8 x')) (.slice (some ⟨g3, 0, none⟩) 16 cp3) (T.set i x').length (intVals .u8 (T.set i x')) := by rw [List.length_set, hTl]; exact RowAt.of_owns olq (by simp)
      clear olq ohr olr Br rhr
      go_wp2_with fail
      refine (HL _ _ H (T.set i x') 0 w (by rw [hHl]; unfold maxLen; omega) (by rw [List.length_set, hTl]; unfold maxLen; omega) _ _ (by simp) rhq rlq).mono ?_; rintro e wx ⟨rfl, hxx⟩
      rw [HLK.out]
      have Bx := (Bq _).step hxx
      clear q0 q1 q2 q3 q4 cx fx kq Bq rhq rlq hxx
      go_wp2_with fail
      refine (num_calls _ _).mono ?_; rintro e w' ⟨rfl, rfl⟩
      go_wp2_with fail
      refine (works_ok _).mono ?_; rintro e wy ⟨rfl, hyy⟩
      go_wp2_with fail
      go_ret
      exact ⟨rfl, (Bx.step hyy).bel⟩
  · obtain ⟨rfl, ho7⟩ := hr7.1 hr'
    obtain ⟨U, hU⟩ : ∃ U, sealB (foldI [key, at_]) (wordI c' s' n') = U := ⟨_, rfl⟩
    obtain ⟨V, hV⟩ : ∃ V, sealB (foldI [at_, key]) (wordI c' s' n') = V := ⟨_, rfl⟩
    have hUl : U.length = 16 := by rw [← hU]; exact sealB_len _ _
    have hVl : V.length = 16 := by rw [← hV]; exact sealB_len _ _
    obtain ⟨q, hq⟩ : ∃ q, same3 c' s' n' c4 s4 n4 = q := ⟨_, rfl⟩
    have hwb := wordI_bd c4 s4 n4 hr hn hn'
    have hwb' := wordI_bd c' s' n' hr' hm hm'
    have hUH : decide (U = H) = q := by
      rw [← hq, Bool.eq_iff_iff, decide_eq_true_eq, same3_iff, ← hU, ← HH.out]
      refine ⟨fun h => wordI_inj _ _ _ _ _ _ hr' hm hm' hr hn hn' (sealB_inj _ _ _ hwb'.1 hwb'.2 hwb.1 hwb.2 h), ?_⟩
      rintro ⟨rfl, rfl, rfl⟩; rfl
    have hVT : decide (V = T) = q := by
      rw [← hq, Bool.eq_iff_iff, decide_eq_true_eq, same3_iff, ← hV, ← HT.out]
      refine ⟨fun h => wordI_inj _ _ _ _ _ _ hr' hm hm' hr hn hn' (sealB_inj _ _ _ hwb'.1 hwb'.2 hwb.1 hwb.2 h), ?_⟩
      rintro ⟨rfl, rfl, rfl⟩; rfl
    have hse := str_beq U H (by rw [← hU]; exact sealB_bytes _ _) HHb.out
    have hse2 := str_beq V T (by rw [← hV]; exact sealB_bytes _ _) HTb.out
    rw [hUH] at hse
    rw [hVT] at hse2
    rw [hU] at ho7
    have HV := Lib.hid hV
    have HQ := Lib.hid hq
    clear hU hV hq hUH hVT hwb hwb' hr7
    obtain ⟨p0, p1, x0, x1, x2⟩ := B7.cells
    obtain ⟨t3, t4, t5⟩ := B7.other
    clear h7
    go_wp2_with fail
    refine (num_calls _ _).mono ?_; rintro e w' ⟨rfl, rfl⟩
    go_wp2_with fail
    refine (Tail_ok key at_ c' s' n' ha ha' hm hm' _).mono ?_; rintro e w8 ⟨v8, e8, rfl, hr8, h8⟩
    obtain ⟨rfl, ho8⟩ := hr8.1 hr'
    rw [HV.out] at ho8
    have B8 := B7.step h8
    have z8 := h8.size
    have oh8 := owns_below oh7 h8 (Nat.le_refl _)
    have ol8 := owns_below ol7 h8 (Nat.le_refl _)
    have ho7' := owns_below ho7 h8 (Nat.le_refl _)
    clear B7 oh7 ol7 ho7 h8 hr8 p0 p1 x0 x1 x2 t3 t4 t5
    go_wp2_with fail
    have rU : RowAt w8.heap.size w8 v7 U.length (intVals .u8 U) := by rw [hUl]; exact RowAt.of_owns ho7' (Nat.le_refl _)
    have rV : RowAt w8.heap.size w8 v8 V.length (intVals .u8 V) := by rw [hVl]; exact RowAt.of_owns ho8 (Nat.le_refl _)
    have rH : RowAt w8.heap.size w8 (.slice (some ⟨g2, 0, none⟩) 16 cp2) H.length (intVals .u8 H) := by rw [hHl]; exact RowAt.of_owns oh8 (Nat.le_refl _)
    have rT : RowAt w8.heap.size w8 (.slice (some ⟨g3, 0, none⟩) 16 cp3) T.length (intVals .u8 T) := by rw [hTl]; exact RowAt.of_owns ol8 (Nat.le_refl _)
    have HS := Lib.hid (fun (Y : World) (k : Below w8.heap.size w8 Y) => (⟨(B8.step k).other.1, (B8.step k).other.2.1, (B8.step k).other.2.2, (B8.step k).ti.cell 0 rfl, (B8.step k).ti.cell 1 rfl, (B8.step k).ti.cell 2 rfl,
      run_convert_row (P := Try.prog) _ (rU.below k (Nat.le_refl _)) Try.underlying28 Try.underlying5 Try.underlying9, run_convert_row (P := Try.prog) _ (rH.below k (Nat.le_refl _)) Try.underlying28 Try.underlying5 Try.underlying9, run_convert_row (P := Try.prog) _ (rV.below k (Nat.le_refl _)) Try.underlying28 Try.underlying5 Try.underlying9, run_convert_row (P := Try.prog) _ (rT.below k (Nat.le_refl _)) Try.underlying28 Try.underlying5 Try.underlying9⟩ :
        OtherS w c4 s4 n4 c' s' n' v7 (.slice (some ⟨g2, 0, none⟩) 16 cp2) v8 (.slice (some ⟨g3, 0, none⟩) 16 cp3) U H V T Y))
    clear rU rV rH rT ho7' ho8
    refine wp_region_held_drew (S := OtherS w c4 s4 n4 c' s' n' v7 (.slice (some ⟨g2, 0, none⟩) 16 cp2) v8 (.slice (some ⟨g3, 0, none⟩) 16 cp3) U H V T) (by kernel_rfl) (HS.out _ (Below.refl _ w8).drew) (fun hHeld => ?_)
    refine wpAnyH_take (i := 0) (v := ?_) rfl (by kernel_rfl) (by kernel_rfl) (by kernel_rfl) (fun _ _ _ h => h) (Or.inl ⟨by rfl, ?_⟩) (by assumption) ?_
    rotate_left
    · (intro Y hSw; (try dsimp only at hSw); obtain ⟨hS1, hS2, hS3, hS4, hS5, hS6, hS7, hS8, hS9, hS10⟩ := hSw; go_simp; try with_reducible rfl)
    try simp only [Act.put, List.getElem_toArray, List.getElem_cons_zero, List.getElem_cons_succ, List.setIfInBounds_toArray, List.set_cons_zero, List.set_cons_succ]
    refine wpAnyH_ready (rs := [1]) (by kernel_rfl) (by simp) ?_
    refine AllReadyH.cons rfl (fun K hK => ?_) AllReadyH.nil
    go_simp
    refine (num_calls _ _).mono ?_; rintro e w' ⟨rfl, rfl⟩
    go_wp2_with fail
    refine hK.out _ _ (HS.out _ (Below.refl _ w8).drew) (fun hHeld => ?_)
    clear hK K
    try simp only [Act.put, List.getElem_toArray, List.getElem_cons_zero, List.getElem_cons_succ, List.setIfInBounds_toArray, List.set_cons_zero, List.set_cons_succ]
    refine wpAnyH_take (i := 2) (v := ?_) rfl (by kernel_rfl) (by kernel_rfl) (by kernel_rfl) (fun _ _ _ h => h) (Or.inl ⟨by rfl, ?_⟩) (by assumption) ?_
    rotate_left
    · (intro Y hSw; (try dsimp only at hSw); obtain ⟨hS1, hS2, hS3, hS4, hS5, hS6, hS7, hS8, hS9, hS10⟩ := hSw; go_simp; try with_reducible rfl)
    try simp only [Act.put, List.getElem_toArray, List.getElem_cons_zero, List.getElem_cons_succ, List.setIfInBounds_toArray, List.set_cons_zero, List.set_cons_succ]
    refine wpAnyH_take (i := 3) (v := ?_) rfl (by kernel_rfl) (by kernel_rfl) (by kernel_rfl) (fun _ _ _ h => h) (Or.inl ⟨by rfl, ?_⟩) (by assumption) ?_
    rotate_left
    · (intro Y hSw; (try dsimp only at hSw); obtain ⟨hS1, hS2, hS3, hS4, hS5, hS6, hS7, hS8, hS9, hS10⟩ := hSw; go_simp; try with_reducible rfl)
    try simp only [Act.put, List.getElem_toArray, List.getElem_cons_zero, List.getElem_cons_succ, List.setIfInBounds_toArray, List.set_cons_zero, List.set_cons_succ]
    refine wpAnyH_take (i := 4) (v := ?_) rfl (by kernel_rfl) (by kernel_rfl) (by kernel_rfl) (fun _ _ _ h => h) (Or.inl ⟨by rfl, ?_⟩) (by assumption) ?_
    rotate_left
    · (intro Y hSw; (try dsimp only at hSw); obtain ⟨hS1, hS2, hS3, hS4, hS5, hS6, hS7, hS8, hS9, hS10⟩ := hSw; go_simp; try with_reducible rfl)
    try simp only [Act.put, List.getElem_toArray, List.getElem_cons_zero, List.getElem_cons_succ, List.setIfInBounds_toArray, List.set_cons_zero, List.set_cons_succ]
    refine wpAnyH_take (i := 5) (v := ?_) rfl (by kernel_rfl) (by kernel_rfl) (by kernel_rfl) (fun _ _ _ h => h) (Or.inl ⟨by rfl, ?_⟩) (by assumption) ?_
    rotate_left
    · (intro Y hSw; (try dsimp only at hSw); obtain ⟨hS1, hS2, hS3, hS4, hS5, hS6, hS7, hS8, hS9, hS10⟩ := hSw; go_simp; try with_reducible rfl)
    try simp only [Act.put, List.getElem_toArray, List.getElem_cons_zero, List.getElem_cons_succ, List.setIfInBounds_toArray, List.set_cons_zero, List.set_cons_succ]
    refine wpAnyH_take (i := 6) (v := ?_) rfl (by kernel_rfl) (by kernel_rfl) (by kernel_rfl) (fun _ _ _ h => h) (Or.inl ⟨by rfl, ?_⟩) (by assumption) ?_
    rotate_left
    · (intro Y hSw; (try dsimp only at hSw); obtain ⟨hS1, hS2, hS3, hS4, hS5, hS6, hS7, hS8, hS9, hS10⟩ := hSw; go_simp; try with_reducible rfl)
    try simp only [Act.put, List.getElem_toArray, List.getElem_cons_zero, List.getElem_cons_succ, List.setIfInBounds_toArray, List.set_cons_zero, List.set_cons_succ]
    refine wpAnyH_take (i := 7) (v := ?_) rfl (by kernel_rfl) (by kernel_rfl) (by kernel_rfl) (fun _ _ _ h => h) (Or.inl ⟨by rfl, ?_⟩) (by assumption) ?_
    rotate_left
    · (intro Y hSw; (try dsimp only at hSw); obtain ⟨hS1, hS2, hS3, hS4, hS5, hS6, hS7, hS8, hS9, hS10⟩ := hSw; go_simp; try with_reducible rfl)
    try simp only [Act.put, List.getElem_toArray, List.getElem_cons_zero, List.getElem_cons_succ, List.setIfInBounds_toArray, List.set_cons_zero, List.set_cons_succ]
    refine wpAnyH_take (i := 8) (v := ?_) rfl (by kernel_rfl) (by kernel_rfl) (by kernel_rfl) (fun _ _ _ h => h) (Or.inl ⟨by rfl, ?_⟩) (by assumption) ?_
    rotate_left
    · (intro Y hSw; (try dsimp only at hSw); obtain ⟨hS1, hS2, hS3, hS4, hS5, hS6, hS7, hS8, hS9, hS10⟩ := hSw; go_simp; try with_reducible rfl)
    try simp only [Act.put, List.getElem_toArray, List.getElem_cons_zero, List.getElem_cons_succ, List.setIfInBounds_toArray, List.set_cons_zero, List.set_cons_succ]
    refine wpAnyH_take (i := 9) (v := ?_) rfl (by kernel_rfl) (by kernel_rfl) (by kernel_rfl) (fun _ _ _ h => h) (Or.inl ⟨by rfl, ?_⟩) (by assumption) ?_
    rotate_left
    · (intro Y hSw; (try dsimp only at hSw); obtain ⟨hS1, hS2, hS3, hS4, hS5, hS6, hS7, hS8, hS9, hS10⟩ := hSw; go_simp; try with_reducible rfl)
    try simp only [Act.put, List.getElem_toArray, List.getElem_cons_zero, List.getElem_cons_succ, List.setIfInBounds_toArray, List.set_cons_zero, List.set_cons_succ]
    refine wpAnyH_take (i := 10) (v := ?_) rfl (by kernel_rfl) (by kernel_rfl) (by kernel_rfl) (fun _ _ _ h => h) (Or.inl ⟨by rfl, ?_⟩) (by assumption) ?_
    rotate_left
    · (intro Y hSw; (try dsimp only at hSw); obtain ⟨hS1, hS2, hS3, hS4, hS5, hS6, hS7, hS8, hS9, hS10⟩ := hSw; go_simp; try with_reducible rfl)
    try simp only [Act.put, List.getElem_toArray, List.getElem_cons_zero, List.getElem_cons_succ, List.setIfInBounds_toArray, List.set_cons_zero, List.set_cons_succ]
    refine wpAnyH_take (i := 11) (v := ?_) rfl (by kernel_rfl) (by kernel_rfl) (by kernel_rfl) (fun _ _ _ h => h) (Or.inl ⟨by rfl, ?_⟩) (by assumption) ?_
    rotate_left
    · (intro Y hSw; (try dsimp only at hSw); obtain ⟨hS1, hS2, hS3, hS4, hS5, hS6, hS7, hS8, hS9, hS10⟩ := hSw; go_simp; try with_reducible rfl)
    try simp only [Act.put, List.getElem_toArray, List.getElem_cons_zero, List.getElem_cons_succ, List.setIfInBounds_toArray, List.set_cons_zero, List.set_cons_succ]
    refine wpAnyH_take (i := 12) (v := .bool q) rfl (by kernel_rfl) (by kernel_rfl) (by kernel_rfl) (fun _ _ _ h => h) (Or.inl ⟨by rfl, ?_⟩) (by assumption) ?_
    · (intro Y hSw; (try dsimp only at hSw); obtain ⟨hS1, hS2, hS3, hS4, hS5, hS6, hS7, hS8, hS9, hS10⟩ := hSw; go_simp; exact eq3 _ _ _ _ _ _ _ _ HQ.out)
    try simp only [Act.put, List.getElem_toArray, List.getElem_cons_zero, List.getElem_cons_succ, List.setIfInBounds_toArray, List.set_cons_zero, List.set_cons_succ]
    refine wpAnyH_take (i := 13) (v := ?_) rfl (by kernel_rfl) (by kernel_rfl) (by kernel_rfl) (fun _ _ _ h => h) (Or.inl ⟨by rfl, ?_⟩) (by assumption) ?_
    rotate_left
    · (intro Y hSw; (try dsimp only at hSw); obtain ⟨hS1, hS2, hS3, hS4, hS5, hS6, hS7, hS8, hS9, hS10⟩ := hSw; go_simp; try with_reducible rfl)
    try simp only [Act.put, List.getElem_toArray, List.getElem_cons_zero, List.getElem_cons_succ, List.setIfInBounds_toArray, List.set_cons_zero, List.set_cons_succ]
    refine wpAnyH_take (i := 14) (v := ?_) rfl (by kernel_rfl) (by kernel_rfl) (by kernel_rfl) (fun _ _ _ h => h) (Or.inl ⟨by rfl, ?_⟩) (by assumption) ?_
    rotate_left
    · (intro Y hSw; (try dsimp only at hSw); obtain ⟨hS1, hS2, hS3, hS4, hS5, hS6, hS7, hS8, hS9, hS10⟩ := hSw; go_simp; try with_reducible rfl)
    try simp only [Act.put, List.getElem_toArray, List.getElem_cons_zero, List.getElem_cons_succ, List.setIfInBounds_toArray, List.set_cons_zero, List.set_cons_succ]
    refine wpAnyH_take (i := 15) (v := ?_) rfl (by kernel_rfl) (by kernel_rfl) (by kernel_rfl) (fun _ _ _ h => h) (Or.inl ⟨by rfl, ?_⟩) (by assumption) ?_
    rotate_left
    · (intro Y hSw; (try dsimp only at hSw); obtain ⟨hS1, hS2, hS3, hS4, hS5, hS6, hS7, hS8, hS9, hS10⟩ := hSw; go_simp; try with_reducible rfl)
    try simp only [Act.put, List.getElem_toArray, List.getElem_cons_zero, List.getElem_cons_succ, List.setIfInBounds_toArray, List.set_cons_zero, List.set_cons_succ]
    refine wpAnyH_take (i := 16) (v := ?_) rfl (by kernel_rfl) (by kernel_rfl) (by kernel_rfl) (fun _ _ _ h => h) (Or.inl ⟨by rfl, ?_⟩) (by assumption) ?_
    rotate_left
    · (intro Y hSw; (try dsimp only at hSw); obtain ⟨hS1, hS2, hS3, hS4, hS5, hS6, hS7, hS8, hS9, hS10⟩ := hSw; go_simp; try with_reducible rfl)
    try simp only [Act.put, List.getElem_toArray, List.getElem_cons_zero, List.getElem_cons_succ, List.setIfInBounds_toArray, List.set_cons_zero, List.set_cons_succ]
    refine wpAnyH_take (i := 17) (v := ?_) rfl (by kernel_rfl) (by kernel_rfl) (by kernel_rfl) (fun _ _ _ h => h) (Or.inl ⟨by rfl, ?_⟩) (by assumption) ?_
    rotate_left
    · (intro Y hSw; (try dsimp only at hSw); obtain ⟨hS1, hS2, hS3, hS4, hS5, hS6, hS7, hS8, hS9, hS10⟩ := hSw; go_simp; try with_reducible rfl)
    try simp only [Act.put, List.getElem_toArray, List.getElem_cons_zero, List.getElem_cons_succ, List.setIfInBounds_toArray, List.set_cons_zero, List.set_cons_succ]
    refine wpAnyH_take (i := 18) (v := ?_) rfl (by kernel_rfl) (by kernel_rfl) (by kernel_rfl) (fun _ _ _ h => h) (Or.inl ⟨by rfl, ?_⟩) (by assumption) ?_
    rotate_left
    · (intro Y hSw; (try dsimp only at hSw); obtain ⟨hS1, hS2, hS3, hS4, hS5, hS6, hS7, hS8, hS9, hS10⟩ := hSw; go_simp; try with_reducible rfl)
    try simp only [Act.put, List.getElem_toArray, List.getElem_cons_zero, List.getElem_cons_succ, List.setIfInBounds_toArray, List.set_cons_zero, List.set_cons_succ]
    refine wpAnyH_take (i := 19) (v := ?_) rfl (by kernel_rfl) (by kernel_rfl) (by kernel_rfl) (fun _ _ _ h => h) (Or.inl ⟨by rfl, ?_⟩) (by assumption) ?_
    rotate_left
    · (intro Y hSw; (try dsimp only at hSw); obtain ⟨hS1, hS2, hS3, hS4, hS5, hS6, hS7, hS8, hS9, hS10⟩ := hSw; go_simp; try with_reducible rfl)
    try simp only [Act.put, List.getElem_toArray, List.getElem_cons_zero, List.getElem_cons_succ, List.setIfInBounds_toArray, List.set_cons_zero, List.set_cons_succ]
    refine wpAnyH_take (i := 20) (v := ?_) rfl (by kernel_rfl) (by kernel_rfl) (by kernel_rfl) (fun _ _ _ h => h) (Or.inl ⟨by rfl, ?_⟩) (by assumption) ?_
    rotate_left
    · (intro Y hSw; (try dsimp only at hSw); obtain ⟨hS1, hS2, hS3, hS4, hS5, hS6, hS7, hS8, hS9, hS10⟩ := hSw; go_simp; try with_reducible rfl)
    try simp only [Act.put, List.getElem_toArray, List.getElem_cons_zero, List.getElem_cons_succ, List.setIfInBounds_toArray, List.set_cons_zero, List.set_cons_succ]
    refine wpAnyH_take (i := 21) (v := ?_) rfl (by kernel_rfl) (by kernel_rfl) (by kernel_rfl) (fun _ _ _ h => h) (Or.inl ⟨by rfl, ?_⟩) (by assumption) ?_
    rotate_left
    · (intro Y hSw; (try dsimp only at hSw); obtain ⟨hS1, hS2, hS3, hS4, hS5, hS6, hS7, hS8, hS9, hS10⟩ := hSw; go_simp; try with_reducible rfl)
    try simp only [Act.put, List.getElem_toArray, List.getElem_cons_zero, List.getElem_cons_succ, List.setIfInBounds_toArray, List.set_cons_zero, List.set_cons_succ]
    refine wpAnyH_take (i := 22) (v := ?_) rfl (by kernel_rfl) (by kernel_rfl) (by kernel_rfl) (fun _ _ _ h => h) (Or.inl ⟨by rfl, ?_⟩) (by assumption) ?_
    rotate_left
    · (intro Y hSw; (try dsimp only at hSw); obtain ⟨hS1, hS2, hS3, hS4, hS5, hS6, hS7, hS8, hS9, hS10⟩ := hSw; go_simp; try with_reducible rfl)
    try simp only [Act.put, List.getElem_toArray, List.getElem_cons_zero, List.getElem_cons_succ, List.setIfInBounds_toArray, List.set_cons_zero, List.set_cons_succ]
    refine wpAnyH_take (i := 23) (v := ?_) rfl (by kernel_rfl) (by kernel_rfl) (by kernel_rfl) (fun _ _ _ h => h) (Or.inl ⟨by rfl, ?_⟩) (by assumption) ?_
    rotate_left
    · (intro Y hSw; (try dsimp only at hSw); obtain ⟨hS1, hS2, hS3, hS4, hS5, hS6, hS7, hS8, hS9, hS10⟩ := hSw; go_simp; try with_reducible rfl)
    try simp only [Act.put, List.getElem_toArray, List.getElem_cons_zero, List.getElem_cons_succ, List.setIfInBounds_toArray, List.set_cons_zero, List.set_cons_succ]
    refine wpAnyH_take (i := 24) (v := .bool q) rfl (by kernel_rfl) (by kernel_rfl) (by kernel_rfl) (fun _ _ _ h => h) (Or.inl ⟨by rfl, ?_⟩) (by assumption) ?_
    · (intro Y hSw; (try dsimp only at hSw); obtain ⟨hS1, hS2, hS3, hS4, hS5, hS6, hS7, hS8, hS9, hS10⟩ := hSw; go_simp; exact eq3 _ _ _ _ _ _ _ _ HQ.out)
    try simp only [Act.put, List.getElem_toArray, List.getElem_cons_zero, List.getElem_cons_succ, List.setIfInBounds_toArray, List.set_cons_zero, List.set_cons_succ]
    refine wpAnyH_take (i := 25) (v := ?_) rfl (by kernel_rfl) (by kernel_rfl) (by kernel_rfl) (fun _ _ _ h => h) (Or.inl ⟨by rfl, ?_⟩) (by assumption) ?_
    rotate_left
    · (intro Y hSw; (try dsimp only at hSw); obtain ⟨hS1, hS2, hS3, hS4, hS5, hS6, hS7, hS8, hS9, hS10⟩ := hSw; go_simp; try with_reducible rfl)
    try simp only [Act.put, List.getElem_toArray, List.getElem_cons_zero, List.getElem_cons_succ, List.setIfInBounds_toArray, List.set_cons_zero, List.set_cons_succ]
    refine wpAnyH_take (i := 26) (v := ?_) rfl (by kernel_rfl) (by kernel_rfl) (by kernel_rfl) (fun _ _ _ h => h) (Or.inl ⟨by rfl, ?_⟩) (by assumption) ?_
    rotate_left
    · (intro Y hSw; (try dsimp only at hSw); obtain ⟨hS1, hS2, hS3, hS4, hS5, hS6, hS7, hS8, hS9, hS10⟩ := hSw; go_simp; try with_reducible rfl)
    try simp only [Act.put, List.getElem_toArray, List.getElem_cons_zero, List.getElem_cons_succ, List.setIfInBounds_toArray, List.set_cons_zero, List.set_cons_succ]
    refine wpAnyH_done (by kernel_rfl) ?_ _
    have k9 := (Below.refl w8.heap.size w8).drew
    generalize w8.drew = w9 at k9 hHeld ⊢
    clear hHeld HS hse hse2
    have B9 := B8.step k9
    have z9 := k9.size
    have oh9 := owns_below oh8 k9 (Nat.le_refl _)
    have ol9 := owns_below ol8 k9 (Nat.le_refl _)
    clear B8 oh8 ol8 k9 HQ HV
    cases q
    · go_wp2_with fail
      have HBc := Lib.hid (fun (Y : World) (k : Below w9.heap.size w9 Y) => (⟨B9.step k, (B9.step k).be.cell 0 rfl, (B9.step k).be.cell 1 rfl⟩ : BackS w key at_ c4 s4 n4 c' s' n' a b Y ∧ Y.cell? ⟨w.heap.size + 1 + 1, 0, none⟩ = some (.int .i64 a) ∧ Y.cell? ⟨w.heap.size + 1 + 1, 1, none⟩ = some (.int .i64 b)))
      refine wp_region_held_drew (S := fun Y => BackS w key at_ c4 s4 n4 c' s' n' a b Y ∧ Y.cell? ⟨w.heap.size + 1 + 1, 0, none⟩ = some (.int .i64 a) ∧ Y.cell? ⟨w.heap.size + 1 + 1, 1, none⟩ = some (.int .i64 b)) (by kernel_rfl) (HBc.out _ (Below.refl _ w9).drew) (fun hHeld => ?_)
      refine wpAnyH_take (i := 0) (v := ?_) rfl (by kernel_rfl) (by kernel_rfl) (by kernel_rfl) (fun _ _ _ h => h) (Or.inl ⟨by rfl, ?_⟩) (by assumption) ?_
      rotate_left
      · (intro Y hSw; (try dsimp only at hSw); obtain ⟨hS0, hS1, hS2⟩ := hSw; go_simp; try with_reducible rfl)
      try simp only [Act.put, List.getElem_toArray, List.getElem_cons_zero, List.getElem_cons_succ, List.setIfInBounds_toArray, List.set_cons_zero, List.set_cons_succ]
      refine wpAnyH_take (i := 1) (v := ?_) rfl (by kernel_rfl) (by kernel_rfl) (by kernel_rfl) (fun _ _ _ h => h) (Or.inl ⟨by rfl, ?_⟩) (by assumption) ?_
      rotate_left
      · (intro Y hSw; (try dsimp only at hSw); obtain ⟨hS0, hS1, hS2⟩ := hSw; go_simp; try with_reducible rfl)
      try simp only [Act.put, List.getElem_toArray, List.getElem_cons_zero, List.getElem_cons_succ, List.setIfInBounds_toArray, List.set_cons_zero, List.set_cons_succ]
      refine wpAnyH_take (i := 2) (v := ?_) rfl (by kernel_rfl) (by kernel_rfl) (by kernel_rfl) (fun _ _ _ h => h) (Or.inl ⟨by rfl, ?_⟩) (by assumption) ?_
      rotate_left
      · (intro Y hSw; (try dsimp only at hSw); obtain ⟨hS0, hS1, hS2⟩ := hSw; go_simp; try with_reducible rfl)
      try simp only [Act.put, List.getElem_toArray, List.getElem_cons_zero, List.getElem_cons_succ, List.setIfInBounds_toArray, List.set_cons_zero, List.set_cons_succ]
      refine wpAnyH_take (i := 3) (v := ?_) rfl (by kernel_rfl) (by kernel_rfl) (by kernel_rfl) (fun _ _ _ h => h) (Or.inl ⟨by rfl, ?_⟩) (by assumption) ?_
      rotate_left
      · (intro Y hSw; (try dsimp only at hSw); obtain ⟨hS0, hS1, hS2⟩ := hSw; go_simp; try with_reducible rfl)
      try simp only [Act.put, List.getElem_toArray, List.getElem_cons_zero, List.getElem_cons_succ, List.setIfInBounds_toArray, List.set_cons_zero, List.set_cons_succ]
      refine wpAnyH_take (i := 4) (v := ?_) rfl (by kernel_rfl) (by kernel_rfl) (by kernel_rfl) (fun _ _ _ h => h) (Or.inl ⟨by rfl, ?_⟩) (by assumption) ?_
      rotate_left
      · (intro Y hSw; (try dsimp only at hSw); obtain ⟨hS0, hS1, hS2⟩ := hSw; go_simp; try with_reducible rfl)
      try simp only [Act.put, List.getElem_toArray, List.getElem_cons_zero, List.getElem_cons_succ, List.setIfInBounds_toArray, List.set_cons_zero, List.set_cons_succ]
      refine wpAnyH_take (i := 5) (v := ?_) rfl (by kernel_rfl) (by kernel_rfl) (by kernel_rfl) (fun _ _ _ h => h) (Or.inl ⟨by rfl, ?_⟩) (by assumption) ?_
      rotate_left
      · (intro Y hSw; (try dsimp only at hSw); obtain ⟨hS0, hS1, hS2⟩ := hSw; go_simp; try with_reducible rfl)
      try simp only [Act.put, List.getElem_toArray, List.getElem_cons_zero, List.getElem_cons_succ, List.setIfInBounds_toArray, List.set_cons_zero, List.set_cons_succ]
      refine wpAnyH_take (i := 6) (v := ?_) rfl (by kernel_rfl) (by kernel_rfl) (by kernel_rfl) (fun _ _ _ h => h) (Or.inl ⟨by rfl, ?_⟩) (by assumption) ?_
      rotate_left
      · (intro Y hSw; (try dsimp only at hSw); obtain ⟨hS0, hS1, hS2⟩ := hSw; go_simp; try with_reducible rfl)
      try simp only [Act.put, List.getElem_toArray, List.getElem_cons_zero, List.getElem_cons_succ, List.setIfInBounds_toArray, List.set_cons_zero, List.set_cons_succ]
      refine wpAnyH_take (i := 7) (v := ?_) rfl (by kernel_rfl) (by kernel_rfl) (by kernel_rfl) (fun _ _ _ h => h) (Or.inl ⟨by rfl, ?_⟩) (by assumption) ?_
      rotate_left
      · (intro Y hSw; (try dsimp only at hSw); obtain ⟨hS0, hS1, hS2⟩ := hSw; go_simp; try with_reducible rfl)
      try simp only [Act.put, List.getElem_toArray, List.getElem_cons_zero, List.getElem_cons_succ, List.setIfInBounds_toArray, List.set_cons_zero, List.set_cons_succ]
      refine wpAnyH_done (by kernel_rfl) ?_ _
      have kr := (Below.refl w9.heap.size w9).drew
      generalize w9.drew = wr at kr hHeld ⊢
      clear hHeld HBc
      have Br := B9.step kr
      have zr := kr.size
      have ohr := owns_below oh9 kr (Nat.le_refl _)
      have olr := owns_below ol9 kr (Nat.le_refl _)
      clear B9 oh9 ol9 kr
      obtain ⟨y, hy⟩ : ∃ y, bits BinOp.and IntKind.i64 b 255 % 256 = y := ⟨_, rfl⟩
      have hyb : 0 ≤ y ∧ y < 256 := by omega
      by_cases hbad : (a < 0 ∨ 31 < a) ∨ y = 0
      · have hyb0 : (y == 0) = decide (y = 0) := by rw [Bool.eq_iff_iff]; simp
        rcases hbad with (h9 | h9) | h9
        · go_wp2_with fail
          refine (works_ok _).mono ?_; rintro e wx ⟨rfl, hx⟩
          go_wp2_with fail
          go_ret
          exact ⟨rfl, (Br.step hx).bel⟩
        · have h8 : ¬ a < 0 := by omega
          go_wp2_with fail
          refine (works_ok _).mono ?_; rintro e wx ⟨rfl, hx⟩
          go_wp2_with fail
          go_ret
          exact ⟨rfl, (Br.step hx).bel⟩
        · by_cases h8 : a < 0
          · go_wp2_with fail
            refine (works_ok _).mono ?_; rintro e wx ⟨rfl, hx⟩
            go_wp2_with fail
            go_ret
            exact ⟨rfl, (Br.step hx).bel⟩
          · by_cases h7 : 31 < a
            · go_wp2_with fail
              refine (works_ok _).mono ?_; rintro e wx ⟨rfl, hx⟩
              go_wp2_with fail
              go_ret
              exact ⟨rfl, (Br.step hx).bel⟩
            · have h9' : (y == 0) = true := by simp [h9]
              go_wp2_with fail
              refine (works_ok _).mono ?_; rintro e wx ⟨rfl, hx⟩
              go_wp2_with fail
              go_ret
              exact ⟨rfl, (Br.step hx).bel⟩
      have hb0 : ¬ a < 0 := by omega
      have hb1 : ¬ 31 < a := by omega
      have hy0 : y ≠ 0 := by omega
      have hyf : (y == 0) = false := by simpa using hy0
      clear hbad
      by_cases h16 : a < 16
      · obtain ⟨i, rfl⟩ : ∃ i : Nat, a = i := ⟨a.toNat, by omega⟩
        have hi : i < 16 := by omega
        have i0 : (0 : Int) ≤ (i : Int) := by omega
        obtain ⟨x, hx⟩ : ∃ x, H.getD i 0 = x := ⟨_, rfl⟩
        have hxb : 0 ≤ x ∧ x < 256 := by
          rw [← hx, List.getD_eq_getElem?_getD, List.getElem?_eq_getElem (by omega)]
          exact HHb.out _ (List.getElem_mem _)
        obtain ⟨x', hx'⟩ : ∃ x', bits BinOp.xor IntKind.u8 x y = x' := ⟨_, rfl⟩
        have hxn := xor8_ne x y hxb.1 hxb.2 hyb.1 hyb.2 hy0
        rw [hx'] at hxn
        have cx : wr.cell? ⟨g2, i, none⟩ = some (.int .u8 x) := by
          rw [ohr.cellAt i (by omega), intVals_get _ _ _ (by omega), ← hx]
          simp [List.getD, hHl, hi]
        have fx : wr.frozen? ⟨g2, i, none⟩ = false := ohr.frozenAt i
        have hset : H.set i x' ≠ H := by
          intro h9
          have h8 := congrArg (fun l : List Int => l.getD i 0) h9
          simp only [hx] at h8
          rw [List.getD_eq_getElem?_getD, List.getElem?_set_self (by omega)] at h8
          exact hxn h8
        have HLK := Lib.hid (show lookI (H.set i x') T H T = 1 by simp [lookI, hset])
        clear hset hx
        have kq : ∀ z, Below w1.heap.size wr (wr.setCell ⟨g2, i, none⟩ z) := fun z => (Below.refl _ wr).setCell (p := ⟨g2, i, none⟩) (by dsimp only; omega) _
        have Bq : ∀ z, BackS w key at_ c4 s4 n4 c' s' n' i b (wr.setCell ⟨g2, i, none⟩ z) := fun z => Br.below (kq z) (by omega)
        have q0 := fun z => (Bq z).cells.1
        have q1 := fun z => (Bq z).cells.2.1
        have q2 := fun z => (Bq z).cells.2.2.1
        have q3 := fun z => (Bq z).cells.2.2.2.1
        have q4 := fun z => (Bq z).cells.2.2.2.2
        have ohq := own_set ohr i x'
        have olq : (wr.setCell ⟨g2, i, none⟩ (.int .u8 x')).ownsRow w2.heap.size 5 1 (.slice (some ⟨g3, 0, none⟩) 16 cp3) 16 (intVals .u8 T) := ownsRow_setCell_below olr (a := ⟨g2, i, none⟩) (by dsimp only; omega) _
        have rhq : RowAt wr.heap.size (wr.setCell ⟨g2, i, none⟩ (.int .u8 x')) (.slice (some ⟨g2, 0, none⟩) 16 cp2) (H.set i x').length (intVals .u8 (H.set i x')) := by rw [List.length_set, hHl]; exact RowAt.of_owns ohq (by simp)
        have rlq : RowAt wr.heap.size (wr.setCell ⟨g2, i, none⟩ (.int .u8 x')) (.slice (some ⟨g3, 0, none⟩) 16 cp3) T.length (intVals .u8 T) := by rw [hTl]; exact RowAt.of_owns olq (by simp)
        clear ohq olq ohr olr Br
        go_wp2_with fail
        refine (HL _ _ (H.set i x') T 0 w (by rw [List.length_set, hHl]; unfold maxLen; omega) (by rw [hTl]; unfold maxLen; omega) _ _ (by simp) rhq rlq).mono ?_; rintro e wx ⟨rfl, hxx⟩
        rw [HLK.out]
        have Bx := (Bq _).step hxx
        clear q0 q1 q2 q3 q4 cx fx kq Bq rhq rlq hxx
        go_wp2_with fail
        refine (num_calls _ _).mono ?_; rintro e w' ⟨rfl, rfl⟩
        go_wp2_with fail
        refine (works_ok _).mono ?_; rintro e wy ⟨rfl, hyy⟩
        go_wp2_with fail
        go_ret
        exact ⟨rfl, (Bx.step hyy).bel⟩
      · obtain ⟨i, hia⟩ : ∃ i : Nat, a - 16 = i := ⟨(a - 16).toNat, by omega⟩
        have hi : i < 16 := by omega
        have i0 : (0 : Int) ≤ (i : Int) := by omega
        have i1 : (i : Int) < 16 := by omega
        obtain ⟨x, hx⟩ : ∃ x, T.getD i 0 = x := ⟨_, rfl⟩
        have hxb : 0 ≤ x ∧ x < 256 := by
          rw [← hx, List.getD_eq_getElem?_getD, List.getElem?_eq_getElem (by omega)]
          exact HTb.out _ (List.getElem_mem _)
        obtain ⟨x', hx'⟩ : ∃ x', bits BinOp.xor IntKind.u8 x y = x' := ⟨_, rfl⟩
        have hxn := xor8_ne x y hxb.1 hxb.2 hyb.1 hyb.2 hy0
        rw [hx'] at hxn
        have cx : wr.cell? ⟨g3, i, none⟩ = some (.int .u8 x) := by
          rw [olr.cellAt i (by omega), intVals_get _ _ _ (by omega), ← hx]
          simp [List.getD, hTl, hi]
        have fx : wr.frozen? ⟨g3, i, none⟩ = false := olr.frozenAt i
        have hset : T.set i x' ≠ T := by
          intro h9
          have h8 := congrArg (fun l : List Int => l.getD i 0) h9
          simp only [hx] at h8
          rw [List.getD_eq_getElem?_getD, List.getElem?_set_self (by omega)] at h8
          exact hxn h8
        have HLK := Lib.hid (show lookI H (T.set i x') H T = 2 by simp [lookI, hset])
        clear hset hx
        have kq : ∀ z, Below w2.heap.size wr (wr.setCell ⟨g3, i, none⟩ z) := fun z => (Below.refl _ wr).setCell (p := ⟨g3, i, none⟩) (by dsimp only; omega) _
        have Bq : ∀ z, BackS w key at_ c4 s4 n4 c' s' n' a b (wr.setCell ⟨g3, i, none⟩ z) := fun z => Br.below (kq z) (by omega)
        have q0 := fun z => (Bq z).cells.1
        have q1 := fun z => (Bq z).cells.2.1
        have q2 := fun z => (Bq z).cells.2.2.1
        have q3 := fun z => (Bq z).cells.2.2.2.1
        have q4 := fun z => (Bq z).cells.2.2.2.2
        have olq := own_set olr i x'
        have rhr : RowAt w2.heap.size wr (.slice (some ⟨g2, 0, none⟩) 16 cp2) H.length (intVals .u8 H) := by
          rw [hHl]
          obtain ⟨_, _, hrw, hc9, hrow⟩ := RowAt.of_owns ohr (Nat.le_refl _)
          refine ⟨_, _, hrw, hc9, hrow.imp id ?_⟩
          rintro ⟨b9, off9, e9, _, hcc⟩
          subst e9
          simp only [Value.slice.injEq, Option.some.injEq, Addr.mk.injEq, and_true, true_and] at hrw
          refine ⟨b9, off9, rfl, by omega, hcc⟩
        have rhq : RowAt wr.heap.size (wr.setCell ⟨g3, i, none⟩ (.int .u8 x')) (.slice (some ⟨g2, 0, none⟩) 16 cp2) H.length (intVals .u8 H) := (rhr.below (kq _) (Nat.le_refl _)).mono (by omega)
        have rlq : RowAt wr.heap.size (wr.setCell ⟨g3, i, none⟩ (.int .u8 x')) (.slice (some ⟨g3, 0, none⟩) 16 cp3) (T.set i x').length (intVals .u8 (T.set i x')) := by rw [List.length_set, hTl]; exact RowAt.of_owns olq (by simp)
        clear olq ohr olr Br rhr
        go_wp2_with fail
        refine (HL _ _ H (T.set i x') 0 w (by rw [hHl]; unfold maxLen; omega) (by rw [List.length_set, hTl]; unfold maxLen; omega) _ _ (by simp) rhq rlq).mono ?_; rintro e wx ⟨rfl, hxx⟩
        rw [HLK.out]
        have Bx := (Bq _).step hxx
        clear q0 q1 q2 q3 q4 cx fx kq Bq rhq rlq hxx
        go_wp2_with fail
        refine (num_calls _ _).mono ?_; rintro e w' ⟨rfl, rfl⟩
        go_wp2_with fail
        refine (works_ok _).mono ?_; rintro e wy ⟨rfl, hyy⟩
        go_wp2_with fail
        go_ret
        exact ⟨rfl, (Bx.step hyy).bel⟩
    · go_wp2_with fail
      have HBc := Lib.hid (fun (Y : World) (k : Below w9.heap.size w9 Y) => (⟨B9.step k, (B9.step k).be.cell 0 rfl, (B9.step k).be.cell 1 rfl⟩ : BackS w key at_ c4 s4 n4 c' s' n' a b Y ∧ Y.cell? ⟨w.heap.size + 1 + 1, 0, none⟩ = some (.int .i64 a) ∧ Y.cell? ⟨w.heap.size + 1 + 1, 1, none⟩ = some (.int .i64 b)))
      refine wp_region_held_drew (S := fun Y => BackS w key at_ c4 s4 n4 c' s' n' a b Y ∧ Y.cell? ⟨w.heap.size + 1 + 1, 0, none⟩ = some (.int .i64 a) ∧ Y.cell? ⟨w.heap.size + 1 + 1, 1, none⟩ = some (.int .i64 b)) (by kernel_rfl) (HBc.out _ (Below.refl _ w9).drew) (fun hHeld => ?_)
      refine wpAnyH_take (i := 0) (v := ?_) rfl (by kernel_rfl) (by kernel_rfl) (by kernel_rfl) (fun _ _ _ h => h) (Or.inl ⟨by rfl, ?_⟩) (by assumption) ?_
      rotate_left
      · (intro Y hSw; (try dsimp only at hSw); obtain ⟨hS0, hS1, hS2⟩ := hSw; go_simp; try with_reducible rfl)
      try simp only [Act.put, List.getElem_toArray, List.getElem_cons_zero, List.getElem_cons_succ, List.setIfInBounds_toArray, List.set_cons_zero, List.set_cons_succ]
      refine wpAnyH_take (i := 1) (v := ?_) rfl (by kernel_rfl) (by kernel_rfl) (by kernel_rfl) (fun _ _ _ h => h) (Or.inl ⟨by rfl, ?_⟩) (by assumption) ?_
      rotate_left
      · (intro Y hSw; (try dsimp only at hSw); obtain ⟨hS0, hS1, hS2⟩ := hSw; go_simp; try with_reducible rfl)
      try simp only [Act.put, List.getElem_toArray, List.getElem_cons_zero, List.getElem_cons_succ, List.setIfInBounds_toArray, List.set_cons_zero, List.set_cons_succ]
      refine wpAnyH_take (i := 2) (v := ?_) rfl (by kernel_rfl) (by kernel_rfl) (by kernel_rfl) (fun _ _ _ h => h) (Or.inl ⟨by rfl, ?_⟩) (by assumption) ?_
      rotate_left
      · (intro Y hSw; (try dsimp only at hSw); obtain ⟨hS0, hS1, hS2⟩ := hSw; go_simp; try with_reducible rfl)
      try simp only [Act.put, List.getElem_toArray, List.getElem_cons_zero, List.getElem_cons_succ, List.setIfInBounds_toArray, List.set_cons_zero, List.set_cons_succ]
      refine wpAnyH_take (i := 3) (v := ?_) rfl (by kernel_rfl) (by kernel_rfl) (by kernel_rfl) (fun _ _ _ h => h) (Or.inl ⟨by rfl, ?_⟩) (by assumption) ?_
      rotate_left
      · (intro Y hSw; (try dsimp only at hSw); obtain ⟨hS0, hS1, hS2⟩ := hSw; go_simp; try with_reducible rfl)
      try simp only [Act.put, List.getElem_toArray, List.getElem_cons_zero, List.getElem_cons_succ, List.setIfInBounds_toArray, List.set_cons_zero, List.set_cons_succ]
      refine wpAnyH_take (i := 4) (v := ?_) rfl (by kernel_rfl) (by kernel_rfl) (by kernel_rfl) (fun _ _ _ h => h) (Or.inl ⟨by rfl, ?_⟩) (by assumption) ?_
      rotate_left
      · (intro Y hSw; (try dsimp only at hSw); obtain ⟨hS0, hS1, hS2⟩ := hSw; go_simp; try with_reducible rfl)
      try simp only [Act.put, List.getElem_toArray, List.getElem_cons_zero, List.getElem_cons_succ, List.setIfInBounds_toArray, List.set_cons_zero, List.set_cons_succ]
      refine wpAnyH_take (i := 5) (v := ?_) rfl (by kernel_rfl) (by kernel_rfl) (by kernel_rfl) (fun _ _ _ h => h) (Or.inl ⟨by rfl, ?_⟩) (by assumption) ?_
      rotate_left
      · (intro Y hSw; (try dsimp only at hSw); obtain ⟨hS0, hS1, hS2⟩ := hSw; go_simp; try with_reducible rfl)
      try simp only [Act.put, List.getElem_toArray, List.getElem_cons_zero, List.getElem_cons_succ, List.setIfInBounds_toArray, List.set_cons_zero, List.set_cons_succ]
      refine wpAnyH_take (i := 6) (v := ?_) rfl (by kernel_rfl) (by kernel_rfl) (by kernel_rfl) (fun _ _ _ h => h) (Or.inl ⟨by rfl, ?_⟩) (by assumption) ?_
      rotate_left
      · (intro Y hSw; (try dsimp only at hSw); obtain ⟨hS0, hS1, hS2⟩ := hSw; go_simp; try with_reducible rfl)
      try simp only [Act.put, List.getElem_toArray, List.getElem_cons_zero, List.getElem_cons_succ, List.setIfInBounds_toArray, List.set_cons_zero, List.set_cons_succ]
      refine wpAnyH_take (i := 7) (v := ?_) rfl (by kernel_rfl) (by kernel_rfl) (by kernel_rfl) (fun _ _ _ h => h) (Or.inl ⟨by rfl, ?_⟩) (by assumption) ?_
      rotate_left
      · (intro Y hSw; (try dsimp only at hSw); obtain ⟨hS0, hS1, hS2⟩ := hSw; go_simp; try with_reducible rfl)
      try simp only [Act.put, List.getElem_toArray, List.getElem_cons_zero, List.getElem_cons_succ, List.setIfInBounds_toArray, List.set_cons_zero, List.set_cons_succ]
      refine wpAnyH_done (by kernel_rfl) ?_ _
      have kr := (Below.refl w9.heap.size w9).drew
      generalize w9.drew = wr at kr hHeld ⊢
      clear hHeld HBc
      have Br := B9.step kr
      have zr := kr.size
      have ohr := owns_below oh9 kr (Nat.le_refl _)
      have olr := owns_below ol9 kr (Nat.le_refl _)
      clear B9 oh9 ol9 kr
      obtain ⟨y, hy⟩ : ∃ y, bits BinOp.and IntKind.i64 b 255 % 256 = y := ⟨_, rfl⟩
      have hyb : 0 ≤ y ∧ y < 256 := by omega
      by_cases hbad : (a < 0 ∨ 31 < a) ∨ y = 0
      · have hyb0 : (y == 0) = decide (y = 0) := by rw [Bool.eq_iff_iff]; simp
        rcases hbad with (h9 | h9) | h9
        · go_wp2_with fail
          refine (works_ok _).mono ?_; rintro e wx ⟨rfl, hx⟩
          go_wp2_with fail
          go_ret
          exact ⟨rfl, (Br.step hx).bel⟩
        · have h8 : ¬ a < 0 := by omega
          go_wp2_with fail
          refine (works_ok _).mono ?_; rintro e wx ⟨rfl, hx⟩
          go_wp2_with fail
          go_ret
          exact ⟨rfl, (Br.step hx).bel⟩
        · by_cases h8 : a < 0
          · go_wp2_with fail
            refine (works_ok _).mono ?_; rintro e wx ⟨rfl, hx⟩
            go_wp2_with fail
            go_ret
            exact ⟨rfl, (Br.step hx).bel⟩
          · by_cases h7 : 31 < a
            · go_wp2_with fail
              refine (works_ok _).mono ?_; rintro e wx ⟨rfl, hx⟩
              go_wp2_with fail
              go_ret
              exact ⟨rfl, (Br.step hx).bel⟩
            · have h9' : (y == 0) = true := by simp [h9]
              go_wp2_with fail
              refine (works_ok _).mono ?_; rintro e wx ⟨rfl, hx⟩
              go_wp2_with fail
              go_ret
              exact ⟨rfl, (Br.step hx).bel⟩
      have hb0 : ¬ a < 0 := by omega
      have hb1 : ¬ 31 < a := by omega
      have hy0 : y ≠ 0 := by omega
      have hyf : (y == 0) = false := by simpa using hy0
      clear hbad
      by_cases h16 : a < 16
      · obtain ⟨i, rfl⟩ : ∃ i : Nat, a = i := ⟨a.toNat, by omega⟩
        have hi : i < 16 := by omega
        have i0 : (0 : Int) ≤ (i : Int) := by omega
        obtain ⟨x, hx⟩ : ∃ x, H.getD i 0 = x := ⟨_, rfl⟩
        have hxb : 0 ≤ x ∧ x < 256 := by
          rw [← hx, List.getD_eq_getElem?_getD, List.getElem?_eq_getElem (by omega)]
          exact HHb.out _ (List.getElem_mem _)
        obtain ⟨x', hx'⟩ : ∃ x', bits BinOp.xor IntKind.u8 x y = x' := ⟨_, rfl⟩
        have hxn := xor8_ne x y hxb.1 hxb.2 hyb.1 hyb.2 hy0
        rw [hx'] at hxn
        have cx : wr.cell? ⟨g2, i, none⟩ = some (.int .u8 x) := by
          rw [ohr.cellAt i (by omega), intVals_get _ _ _ (by omega), ← hx]
          simp [List.getD, hHl, hi]
        have fx : wr.frozen? ⟨g2, i, none⟩ = false := ohr.frozenAt i
        have hset : H.set i x' ≠ H := by
          intro h9
          have h8 := congrArg (fun l : List Int => l.getD i 0) h9
          simp only [hx] at h8
          rw [List.getD_eq_getElem?_getD, List.getElem?_set_self (by omega)] at h8
          exact hxn h8
        have HLK := Lib.hid (show lookI (H.set i x') T H T = 1 by simp [lookI, hset])
        clear hset hx
        have kq : ∀ z, Below w1.heap.size wr (wr.setCell ⟨g2, i, none⟩ z) := fun z => (Below.refl _ wr).setCell (p := ⟨g2, i, none⟩) (by dsimp only; omega) _
        have Bq : ∀ z, BackS w key at_ c4 s4 n4 c' s' n' i b (wr.setCell ⟨g2, i, none⟩ z) := fun z => Br.below (kq z) (by omega)
        have q0 := fun z => (Bq z).cells.1
        have q1 := fun z => (Bq z).cells.2.1
        have q2 := fun z => (Bq z).cells.2.2.1
        have q3 := fun z => (Bq z).cells.2.2.2.1
        have q4 := fun z => (Bq z).cells.2.2.2.2
        have ohq := own_set ohr i x'
        have olq : (wr.setCell ⟨g2, i, none⟩ (.int .u8 x')).ownsRow w2.heap.size 5 1 (.slice (some ⟨g3, 0, none⟩) 16 cp3) 16 (intVals .u8 T) := ownsRow_setCell_below olr (a := ⟨g2, i, none⟩) (by dsimp only; omega) _
        have rhq : RowAt wr.heap.size (wr.setCell ⟨g2, i, none⟩ (.int .u8 x')) (.slice (some ⟨g2, 0, none⟩) 16 cp2) (H.set i x').length (intVals .u8 (H.set i x')) := by rw [List.length_set, hHl]; exact RowAt.of_owns ohq (by simp)
        have rlq : RowAt wr.heap.size (wr.setCell ⟨g2, i, none⟩ (.int .u8 x')) (.slice (some ⟨g3, 0, none⟩) 16 cp3) T.length (intVals .u8 T) := by rw [hTl]; exact RowAt.of_owns olq (by simp)
        clear ohq olq ohr olr Br
        go_wp2_with fail
        refine (HL _ _ (H.set i x') T 0 w (by rw [List.length_set, hHl]; unfold maxLen; omega) (by rw [hTl]; unfold maxLen; omega) _ _ (by simp) rhq rlq).mono ?_; rintro e wx ⟨rfl, hxx⟩
        rw [HLK.out]
        have Bx := (Bq _).step hxx
        clear q0 q1 q2 q3 q4 cx fx kq Bq rhq rlq hxx
        go_wp2_with fail
        refine (num_calls _ _).mono ?_; rintro e w' ⟨rfl, rfl⟩
        go_wp2_with fail
        refine (works_ok _).mono ?_; rintro e wy ⟨rfl, hyy⟩
        go_wp2_with fail
        go_ret
        exact ⟨rfl, (Bx.step hyy).bel⟩
      · obtain ⟨i, hia⟩ : ∃ i : Nat, a - 16 = i := ⟨(a - 16).toNat, by omega⟩
        have hi : i < 16 := by omega
        have i0 : (0 : Int) ≤ (i : Int) := by omega
        have i1 : (i : Int) < 16 := by omega
        obtain ⟨x, hx⟩ : ∃ x, T.getD i 0 = x := ⟨_, rfl⟩
        have hxb : 0 ≤ x ∧ x < 256 := by
          rw [← hx, List.getD_eq_getElem?_getD, List.getElem?_eq_getElem (by omega)]
          exact HTb.out _ (List.getElem_mem _)
        obtain ⟨x', hx'⟩ : ∃ x', bits BinOp.xor IntKind.u8 x y = x' := ⟨_, rfl⟩
        have hxn := xor8_ne x y hxb.1 hxb.2 hyb.1 hyb.2 hy0
        rw [hx'] at hxn
        have cx : wr.cell? ⟨g3, i, none⟩ = some (.int .u8 x) := by
          rw [olr.cellAt i (by omega), intVals_get _ _ _ (by omega), ← hx]
          simp [List.getD, hTl, hi]
        have fx : wr.frozen? ⟨g3, i, none⟩ = false := olr.frozenAt i
        have hset : T.set i x' ≠ T := by
          intro h9
          have h8 := congrArg (fun l : List Int => l.getD i 0) h9
          simp only [hx] at h8
          rw [List.getD_eq_getElem?_getD, List.getElem?_set_self (by omega)] at h8
          exact hxn h8
        have HLK := Lib.hid (show lookI H (T.set i x') H T = 2 by simp [lookI, hset])
        clear hset hx
        have kq : ∀ z, Below w2.heap.size wr (wr.setCell ⟨g3, i, none⟩ z) := fun z => (Below.refl _ wr).setCell (p := ⟨g3, i, none⟩) (by dsimp only; omega) _
        have Bq : ∀ z, BackS w key at_ c4 s4 n4 c' s' n' a b (wr.setCell ⟨g3, i, none⟩ z) := fun z => Br.below (kq z) (by omega)
        have q0 := fun z => (Bq z).cells.1
        have q1 := fun z => (Bq z).cells.2.1
        have q2 := fun z => (Bq z).cells.2.2.1
        have q3 := fun z => (Bq z).cells.2.2.2.1
        have q4 := fun z => (Bq z).cells.2.2.2.2
        have olq := own_set olr i x'
        have rhr : RowAt w2.heap.size wr (.slice (some ⟨g2, 0, none⟩) 16 cp2) H.length (intVals .u8 H) := by
          rw [hHl]
          obtain ⟨_, _, hrw, hc9, hrow⟩ := RowAt.of_owns ohr (Nat.le_refl _)
          refine ⟨_, _, hrw, hc9, hrow.imp id ?_⟩
          rintro ⟨b9, off9, e9, _, hcc⟩
          subst e9
          simp only [Value.slice.injEq, Option.some.injEq, Addr.mk.injEq, and_true, true_and] at hrw
          refine ⟨b9, off9, rfl, by omega, hcc⟩
        have rhq : RowAt wr.heap.size (wr.setCell ⟨g3, i, none⟩ (.int .u8 x')) (.slice (some ⟨g2, 0, none⟩) 16 cp2) H.length (intVals .u8 H) := (rhr.below (kq _) (Nat.le_refl _)).mono (by omega)
        have rlq : RowAt wr.heap.size (wr.setCell ⟨g3, i, none⟩ (.int .u8 x')) (.slice (some ⟨g3, 0, none⟩) 16 cp3) (T.set i x').length (intVals .u8 (T.set i x')) := by rw [List.length_set, hTl]; exact RowAt.of_owns olq (by simp)
        clear olq ohr olr Br rhr
        go_wp2_with fail
        refine (HL _ _ H (T.set i x') 0 w (by rw [hHl]; unfold maxLen; omega) (by rw [List.length_set, hTl]; unfold maxLen; omega) _ _ (by simp) rhq rlq).mono ?_; rintro e wx ⟨rfl, hxx⟩
        rw [HLK.out]
        have Bx := (Bq _).step hxx
        clear q0 q1 q2 q3 q4 cx fx kq Bq rhq rlq hxx
        go_wp2_with fail
        refine (num_calls _ _).mono ?_; rintro e w' ⟨rfl, rfl⟩
        go_wp2_with fail
        refine (works_ok _).mono ?_; rintro e wy ⟨rfl, hyy⟩
        go_wp2_with fail
        go_ret
        exact ⟨rfl, (Bx.step hyy).bel⟩
theorem walk (H : Type) (enc : TypeId × Value → H) (W : World) (base : Nat) (args : Array Value) (ds : List (DataW H)) (p : List MemPlace)
    (hval : ∀ (j : Nat) t v, Try.f6.params[j]? = some t → args[j]? = some v → Value.okWide Try.prog W .any base t v)
    (hA : DataW.TrodAll enc Try.prog W 0 (fun _ => true) true Try.f6.params.toList args.toList ds p) (hlt : ∀ x ∈ p, x.block < W.heap.size) :
    Calls Try.prog 6 args W (fun e W' => e = .returned (.bool true) ∧ Below W.heap.size W W') ∧ ∃ d0 d1 d2, ds = [d0, d1, d2] := by
  rw [Try.params6] at hA hval
  obtain ⟨v0, vs0, d0, ds0, p0, q0, hargs, rfl, rfl, h0, r0⟩ := trodAll_cons hA
  obtain ⟨v1, vs1, d1, ds1, p1, q1, rfl, rfl, rfl, h1, r1⟩ := trodAll_cons r0
  obtain ⟨v2, vs2, d2, ds2, p2, q2, rfl, rfl, rfl, h2, r2⟩ := trodAll_cons r1
  obtain ⟨rfl, rfl, rfl⟩ := trodAll_nil r2
  obtain rfl : args = #[v0, v1, v2] := by cases args; simp_all
  obtain ⟨key, at_, rfl, bk, ba⟩ := open_place (hval 0 25 v0 rfl rfl) h0
  obtain ⟨c, s, n, c', s', n', rfl, bn, bm⟩ := open_tags2 (hval 1 49 v1 rfl rfl) h1
  obtain ⟨a', b', y0, y1, m, rfl, hy0, hy1⟩ := open_array2 Try.underlying50 (by kernel_rfl) (by kernel_rfl) (hval 2 50 v2 rfl rfl) h2
  obtain ⟨a, e0, _, wa⟩ := DataW.trod_int Try.underlying3 hy0
  obtain ⟨b, e1, _, wb⟩ := DataW.trod_int Try.underlying3 hy1
  simp at e0 e1
  subst e0 e1
  exact ⟨body key at_ c s n c' s' n' a b bk.1 bk.2 ba.1 ba.2 bn.1 bn.2 bm.1 bm.2 W, _, _, _, rfl⟩

theorem own : ownKnob Try.prog.godebug = none := by kernel_rfl
set_option maxRecDepth 100000 in
theorem lifted (os : Os) (started : os.Started) (H : Type) (enc : TypeId × Value → H) :
    ReturnsInHanded {} Try.checked os 6 .any (Rows.sealBackSpec.pre6 enc Try.prog Try.f6 Rows.sealBackRow.domain false) (Rows.sealBackSpec.post enc Try.prog Try.f6 false true false false) := by
  refine returnsInHanded_of_change (C := Try.checked) own started (by kernel_rfl) Try.func6
    (ChangeSpec.witness6 (enc := enc) (C := Try.checked) false ⟨#[], #[.agg #[.int .u64 0, .int .u32 0], .agg #[.int .i64 0, .int .i64 0, .int .u32 0, .int .i64 0, .int .i64 0, .int .u32 0], .agg #[.int .i64 0, .int .i64 0]], []⟩ 8 (by kernel_rfl) (by kernel_rfl) (by kernel_rfl) (by kernel_rfl)) ?_
  intro W base args ds gs before hval hW hcnd _
  have hW' := hW
  obtain ⟨p, q, hA, hV, rfl, hfz, hnd⟩ := hW
  obtain ⟨rfl, rfl⟩ := trodVars_none hV
  have hlt : ∀ x ∈ p, x.block < W.heap.size := fun x hx => hW'.lt x (List.mem_append_left _ hx)
  obtain ⟨hc, d0, d1, d2, rfl⟩ := walk H enc W base args ds p hval hA hlt
  refine hc.mono fun e W' ⟨he, hb⟩ => ?_
  subst he
  exact ⟨_, rfl, law_post (by kernel_rfl) (by kernel_rfl) rfl (by kernel_rfl) rfl rfl rfl rfl hW' hA hlt hb⟩

theorem over : Rows.sealBackRow.holds Try.pinned (OpenSpec.ofChange Rows.sealBackSpec) :=
  OpenClaim.holds_of_wide 6 Try.f6 rfl rfl rfl rfl rfl rfl rfl ⟨rfl, rfl, rfl, rfl, rfl⟩ rfl rfl rfl rfl rfl (by kernel_rfl) Try.func6 (by kernel_rfl)
    (of_decide_eq_true (by kernel_rfl)) (by unfold Func.isWrapper; first | (rw [if_pos (by decide +kernel)]; kernel_rfl) | (rw [if_neg (by decide +kernel)]; exact ⟨rfl, rfl⟩))
    (fun os started H enc _ => lifted os started H enc)

theorem proved : Rows.SealBackSaid :=
  over

end Go.Proofs.Ytackenlfnecanaa.sealBack
