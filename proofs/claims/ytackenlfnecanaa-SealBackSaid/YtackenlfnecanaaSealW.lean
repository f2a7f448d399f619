/-
  Package pinfoldlaw06: num, works. No condition.
-/
import Derived.Test.YtackenlfnecanaaSealG
namespace Go.Proofs.Ytackenlfnecanaa
open Go.RowKit
set_option maxHeartbeats 1000000
set_option maxRecDepth 4000

theorem num_calls (a : Int) (w : World) : Calls Try.prog 11 #[.int .i64 a] w fun e w' => e = .returned (.int .i64 a) ∧ w = w' := by
  go_enter Try.func11, Try.ntmps11
  go_wp2
  go_ret
  exact ⟨rfl, rfl⟩
/-- A byte of an own row is stored. -/
theorem own_set {W : World} {base : Nat} {e : TypeId} {g cap n : Nat} {l : List Int} (h : W.ownsRow base e 1 (.slice (some ⟨g, 0, none⟩) n cap) n (intVals .u8 l)) (i : Nat) (z : Int) :
    (W.setCell ⟨g, i, none⟩ (.int .u8 z)).ownsRow base e 1 (.slice (some ⟨g, 0, none⟩) n cap) n (intVals .u8 (l.set i z)) := by
  have := (h.stored i (.int .u8 z)).1
  simpa [intVals, List.map_set] using this
theorem tag3 {W : World} {b : Nat} {c s n : Int} {t : TypeId} (h : Blk W b #[.int .i64 c, .int .i64 s, .int .u32 n] t) :
    W.cell? ⟨b, 0, none⟩ = some (.int .i64 c) ∧ W.cell? ⟨b, 1, none⟩ = some (.int .i64 s) ∧ W.cell? ⟨b, 2, none⟩ = some (.int .u32 n) := ⟨h.cell 0 rfl, h.cell 1 rfl, h.cell 2 rfl⟩
theorem zeros15 (w : World) : RowAt (w.heap.size + 1) (w.alloc (.cells (Array.replicate 15 (.int .u8 0)) 5)) (.slice (some ⟨w.heap.size, 0, none⟩) 15 15) (List.replicate 15 (0 : Int)).length (intVals .u8 (List.replicate 15 0)) := by
  exact RowAt.lit w (Array.replicate 15 (.int .u8 0)) 5 15 _ (by omega)
theorem works_ok (w : World) : Calls Try.prog 12 #[] w fun e w' => e = .returned (.bool true) ∧ Below w.heap.size w w' := by
  obtain ⟨H, hH⟩ : ∃ H, sealB (foldI [7, 256]) (wordI 1 20 5) = H := ⟨_, rfl⟩
  obtain ⟨T, hT⟩ : ∃ T, sealB (foldI [256, 7]) (wordI 1 20 5) = T := ⟨_, rfl⟩
  have hHl : H.length = 16 := by rw [← hH]; exact sealB_len _ _
  have hTl : T.length = 16 := by rw [← hT]; exact sealB_len _ _
  have hHb : ∀ x ∈ H, 0 ≤ x ∧ x < 256 := by rw [← hH]; exact sealB_bytes _ _
  have hok : okI 7 256 H = true := by rw [← hH]; exact ok_seal 7 256 1 20 5 rfl (by decide) (by decide)
  have hsd : saidI 7 256 H = wordI 1 20 5 := by rw [← hH]; exact said_seal 7 256 1 20 5 rfl (by decide) (by decide)
  have hparts := parts_word 1 20 5 rfl (by decide) (by decide)
  obtain ⟨w0, hw0⟩ : ∃ w0, w.alloc (.cells #[.int .i64 1, .int .i64 20, .int .u32 5] 27) = w0 := ⟨_, rfl⟩
  have hX : Blk w0 w.heap.size #[.int .i64 1, .int .i64 20, .int .u32 5] 27 := by rw [← hw0]; exact Blk.new w _ _
  have hb0 : Below w.heap.size w w0 := by rw [← hw0]; exact (Below.refl _ w).alloc (Nat.le_refl _) _
  have z0 := hb0.size
  have HH := Lib.hid hH
  have HT := Lib.hid hT
  have HB := Lib.hid hHb
  have HTB := Lib.hid (show ∀ x ∈ T, 0 ≤ x ∧ x < 256 by rw [← hT]; exact sealB_bytes _ _)
  have hlt0 := hX.lt
  clear hH hT hHb
  obtain ⟨x0, x1, x2⟩ := tag3 hX
  go_enter Try.func12, Try.ntmps12
  go_wp2_with fail
  clear hw0
  refine (Head_ok 7 256 1 20 5 (by decide) (by decide) (by decide) (by decide) _).mono ?_; rintro e w1 ⟨v1, e0, rfl, hr1, h1⟩
  obtain ⟨rfl, ho1⟩ := hr1.1 rfl
  clear hr1 x0 x1 x2
  rw [HH.out] at ho1
  obtain ⟨g1, cp1, rfl⟩ := ownsRow_succ ho1
  have z1 := h1.size
  have hR1 : RowAt w1.heap.size w1 (.slice (some ⟨g1, 0, none⟩) 16 cp1) H.length (intVals .u8 H) := by rw [hHl]; exact RowAt.of_owns ho1 (Nat.le_refl _)
  have hX1 := hX.below h1 hX.lt
  clear ho1
  go_wp2_with fail
  refine (Open_ok 7 256 (by decide) (by decide) _ H HB.out (by rw [hHl]; unfold maxLen; omega) _ _ (Nat.le_refl _) hR1).mono ?_; rintro e w2 ⟨c, s, n, e2, rfl, h2, _, _, hop⟩
  obtain ⟨hc, hs, hn, rfl⟩ := hop hHl hok
  rw [hsd, hparts.1] at hc
  rw [hsd, hparts.2.1] at hs
  rw [hsd, hparts.2.2] at hn
  subst hc hs hn
  clear hop
  have z2 := h2.size
  have hb2 := hb0.trans ((h1.mono z0).trans (h2.mono (by omega)))
  have hX2 := hX1.below h2 hX1.lt
  have hR2 := (hR1.below h2 (Nat.le_refl _)).mono z2
  clear hX hX1 hR1 h1 h2
  obtain ⟨w3, hw3⟩ : ∃ w3, w2.alloc (.cells #[.int .i64 1, .int .i64 20, .int .u32 5] 27) = w3 := ⟨_, rfl⟩
  have hO : Blk w3 w2.heap.size #[.int .i64 1, .int .i64 20, .int .u32 5] 27 := by rw [← hw3]; exact Blk.new w2 _ _
  have hk3 : Below w2.heap.size w2 w3 := by rw [← hw3]; exact (Below.refl _ w2).alloc (Nat.le_refl _) _
  have z3 := hk3.size
  have hX3 := hX2.below hk3 hX2.lt
  have hR3 := (hR2.below hk3 (Nat.le_refl _)).mono z3
  have hb3 := hb2.trans (hk3.mono hb2.size)
  obtain ⟨x0, x1, x2⟩ := tag3 hX3
  clear hX2 hR2
  go_wp2_with fail
  clear hw3 x0 x1 x2
  refine (Tail_ok 7 256 1 20 5 (by decide) (by decide) (by decide) (by decide) _).mono ?_; rintro e w4 ⟨v4, e0, rfl, hr4, h4⟩
  obtain ⟨rfl, ho4⟩ := hr4.1 rfl
  clear hr4
  rw [HT.out] at ho4
  obtain ⟨g4, cp4, rfl⟩ := ownsRow_succ ho4
  have z4 := h4.size
  have hb4 := hb3.trans (h4.mono hb3.size)
  have hX4 := hX3.below h4 hX3.lt
  have hO4 := hO.below h4 hO.lt
  have hR4 := hR3.below h4 (Nat.le_refl _)
  clear hX3 hO hR3 h4 hk3
  go_wp2_with fail
  refine (Head_ok 7 0 8 0 0 (by decide) (by decide) (by decide) (by decide) _).mono ?_; rintro e w5 ⟨v5, e0, rfl, hr5, h5⟩
  obtain ⟨rfl, rfl⟩ := hr5.2 rfl
  clear hr5
  have z5 := h5.size
  have hb5 := hb4.trans (h5.mono hb4.size)
  have hX5 := hX4.below h5 hX4.lt
  have hO5 := hO4.below h5 hO4.lt
  have hR5 := hR4.below h5 z4
  have ho5 := owns_below ho4 h5 (Nat.le_refl _)
  clear hX4 hO4 hR4 h5 ho4
  obtain ⟨i0, hi, hz, hsize, hby, hzs, hsz⟩ := info8
  go_wp2_with (at_make; refine wpList_make_full _ rfl _ _ 28 rfl w5.heap.size 5 i0 (.int .u8 0) 1 Try.underlying28 hi hz hsize .i64 .i64 15 15 15 rfl rfl rfl rfl (by rw [hby]; omega) (by unfold maxLen; omega) (Nat.le_refl _) ?_)
  intro w6 ho6 hg6
  have h6 : Below w5.heap.size w5 w6 := (Below.refl _ w5).grown hg6 (Nat.le_refl _) (by intro k e; cases e)
  have hmade : (madeCells #[Value.int .u8 0] 15).toList = intVals .u8 (List.replicate 15 0) := by rw [made_one]; rfl
  rw [hmade] at ho6
  clear hg6 hmade hi hz hsize hby hzs hsz i0
  have z6 := h6.size
  have hb6 := hb5.trans (h6.mono hb5.size)
  have hX6 := hX5.below h6 hX5.lt
  have hO6 := hO5.below h6 hO5.lt
  have hR6 := hR5.below h6 (by omega)
  have hq6 := owns_below ho5 h6 (Nat.le_refl _)
  clear hX5 hO5 hR5 h6 ho5
  go_wp2_with fail
  refine (Open_ok 7 256 (by decide) (by decide) _ (List.replicate 15 0) (by intro x hx; simp at hx; subst hx; decide) (by decide) _ _ (Nat.le_refl _) (RowAt.of_owns ho6 (Nat.le_refl _))).mono ?_; rintro e w7 ⟨c, s, n, e2, rfl, h7, hop, _, _⟩
  obtain ⟨rfl, rfl, rfl, rfl⟩ := hop (by decide)
  clear hop ho6
  have z7 := h7.size
  have hb7 := hb6.trans (h7.mono hb6.size)
  have hX7 := hX6.below h7 hX6.lt
  have hO7 := hO6.below h7 hO6.lt
  have hR7 := hR6.below h7 (by omega)
  have hq7 := owns_below hq6 h7 (Nat.le_refl _)
  clear hX6 hO6 hR6 h7 hq6
  have x0 : ∀ o, (w7.alloc o).cell? ⟨w.heap.size, 0, none⟩ = some (.int .i64 1) := fun o => (hX7.alloc o).cell 0 rfl
  have x1 : ∀ o, (w7.alloc o).cell? ⟨w.heap.size, 1, none⟩ = some (.int .i64 20) := fun o => (hX7.alloc o).cell 1 rfl
  have x2 : ∀ o, (w7.alloc o).cell? ⟨w.heap.size, 2, none⟩ = some (.int .u32 5) := fun o => (hX7.alloc o).cell 2 rfl
  have y0 : ∀ o, (w7.alloc o).cell? ⟨w2.heap.size, 0, none⟩ = some (.int .i64 1) := fun o => (hO7.alloc o).cell 0 rfl
  have y1 : ∀ o, (w7.alloc o).cell? ⟨w2.heap.size, 1, none⟩ = some (.int .i64 20) := fun o => (hO7.alloc o).cell 1 rfl
  have y2 : ∀ o, (w7.alloc o).cell? ⟨w2.heap.size, 2, none⟩ = some (.int .u32 5) := fun o => (hO7.alloc o).cell 2 rfl
  go_wp2_with fail
  refine (num_calls _ _).mono ?_; rintro e w' ⟨rfl, rfl⟩
  go_wp2_with fail
  refine (num_calls _ _).mono ?_; rintro e w' ⟨rfl, rfl⟩
  go_wp2_with fail
  refine (num_calls _ _).mono ?_; rintro e w' ⟨rfl, rfl⟩
  go_wp2_with fail
  refine (num_calls _ _).mono ?_; rintro e w' ⟨rfl, rfl⟩
  go_wp2_with fail
  refine (num_calls _ _).mono ?_; rintro e w' ⟨rfl, rfl⟩
  go_wp2_with fail
  clear x0 x1 x2 y0 y1 y2 hO7
  have hb8 := hb7.alloc hb7.size (.cells #[.int .i64 0, .int .i64 0, .int .u32 0] 27)
  have hX8 := hX7.alloc (.cells #[.int .i64 0, .int .i64 0, .int .u32 0] 27)
  have h8 := (Below.refl _ w7).alloc (Nat.le_refl _) (.cells #[.int .i64 0, .int .i64 0, .int .u32 0] 27)
  have hR8 := hR7.below h8 (by omega)
  have hq8 := owns_below hq7 h8 (Nat.le_refl _)
  have z8 := h8.size
  clear hb7 hX7 hR7 hq7 h8
  generalize w7.alloc (.cells #[.int .i64 0, .int .i64 0, .int .u32 0] 27) = w8 at *
  have hT8 : RowAt w8.heap.size w8 (.slice (some ⟨g4, 0, none⟩) 16 cp4) T.length (intVals .u8 T) := by rw [hTl]; exact RowAt.of_owns hq8 (Nat.le_refl _)
  refine (Look_yes 7 256 1 20 5 (by decide) (by decide) (by decide) (by decide) rfl _ _ H T (by rw [hHl]; unfold maxLen; omega) (by rw [hTl]; unfold maxLen; omega) w8.heap.size _ (Nat.le_refl _) (hR8.mono (by omega)) hT8).mono ?_; rintro e w9 ⟨rfl, h9⟩
  rw [HH.out, HT.out, show lookI H T H T = 0 by simp [lookI]]
  have z9 := h9.size
  have hb9 := hb8.trans (h9.mono hb8.size)
  have hX9 := hX8.below h9 hX8.lt
  have hR9 := hR8.below h9 (by omega)
  have hq9 := owns_below hq8 h9 (Nat.le_refl _)
  clear hX8 hR8 h9 hq8 hT8
  obtain ⟨hg4, hg4', hn4, hc4⟩ := owns_slice hq9
  obtain ⟨t3, ht3⟩ : ∃ t3, T.getD 3 0 = t3 := ⟨_, rfl⟩
  have c3 : w9.cell? ⟨g4, 3, none⟩ = some (.int .u8 t3) := by
    rw [hq9.cellAt 3 (by omega), intVals_get _ _ _ (by omega), ← ht3]
    simp [List.getD, hTl]
  have hne : lookI H (T.set 3 ((t3 + 1) % 256)) H T = 2 := by
    have hd : T.set 3 ((t3 + 1) % 256) ≠ T := by
      intro h
      have h1 := congrArg (fun l : List Int => l.getD 3 0) h
      simp only [ht3] at h1
      rw [List.getD_eq_getElem?_getD, List.getElem?_set_self (by omega)] at h1
      have h2 : 0 ≤ t3 ∧ t3 < 256 := by
        rw [← ht3, List.getD_eq_getElem?_getD, List.getElem?_eq_getElem (by omega)]
        exact HTB.out _ (List.getElem_mem _)
      simp at h1
      omega
    simp [lookI, hd]
  have HNE := Lib.hid hne
  clear hne ht3
  have f3 : w9.frozen? ⟨g4, 3, none⟩ = false := hq9.frozenAt 3
  have hgne : w.heap.size ≠ g4 := by omega
  have x0 : ∀ z, (w9.setCell ⟨g4, 3, none⟩ z).cell? ⟨w.heap.size, 0, none⟩ = some (.int .i64 1) := fun z => (hX9.setOther ⟨g4, 3, none⟩ z hgne).cell 0 rfl
  have x1 : ∀ z, (w9.setCell ⟨g4, 3, none⟩ z).cell? ⟨w.heap.size, 1, none⟩ = some (.int .i64 20) := fun z => (hX9.setOther ⟨g4, 3, none⟩ z hgne).cell 1 rfl
  have x2 : ∀ z, (w9.setCell ⟨g4, 3, none⟩ z).cell? ⟨w.heap.size, 2, none⟩ = some (.int .u32 5) := fun z => (hX9.setOther ⟨g4, 3, none⟩ z hgne).cell 2 rfl
  have hq10 := own_set hq9 3 ((t3 + 1) % 256)
  have h10 : Below w3.heap.size w9 (w9.setCell ⟨g4, 3, none⟩ (.int .u8 ((t3 + 1) % 256))) := (Below.refl _ w9).setCell (p := ⟨g4, 3, none⟩) (by dsimp only; omega) _
  have hb10 := hb9.setCell (p := ⟨g4, 3, none⟩) (by dsimp only; omega) (.int .u8 ((t3 + 1) % 256))
  have hR10 := hR9.below h10 (by omega)
  have z10 : (w9.setCell ⟨g4, 3, none⟩ (.int .u8 ((t3 + 1) % 256))).heap.size = w9.heap.size := by simp
  have hT10 : RowAt w9.heap.size (w9.setCell ⟨g4, 3, none⟩ (.int .u8 ((t3 + 1) % 256))) (.slice (some ⟨g4, 0, none⟩) 16 cp4) (T.set 3 ((t3 + 1) % 256)).length (intVals .u8 (T.set 3 ((t3 + 1) % 256))) := by
    rw [List.length_set, hTl]; exact RowAt.of_owns hq10 (by rw [z10]; exact Nat.le_refl _)
  go_wp2_with fail
  clear x0 x1 x2 c3 f3 hq10 h10 hq9 hX9 hR9
  generalize w9.setCell ⟨g4, 3, none⟩ (.int .u8 ((t3 + 1) % 256)) = w10 at *
  refine (Look_yes 7 256 1 20 5 (by decide) (by decide) (by decide) (by decide) rfl _ _ H (T.set 3 ((t3 + 1) % 256)) (by rw [hHl]; unfold maxLen; omega) (by rw [List.length_set, hTl]; unfold maxLen; omega) w9.heap.size _ (by omega) (hR10.mono (by omega)) hT10).mono ?_; rintro e w11 ⟨rfl, h11⟩
  rw [HH.out, HT.out, HNE.out]
  have hb11 := hb10.trans (h11.mono (by omega))
  go_wp2_with fail
  refine (num_calls _ _).mono ?_; rintro e w' ⟨rfl, rfl⟩
  go_wp2_with fail
  refine (num_calls _ _).mono ?_; rintro e w' ⟨rfl, rfl⟩
  go_wp2_with fail
  go_ret
  exact ⟨rfl, hb11⟩
end Go.Proofs.Ytackenlfnecanaa
