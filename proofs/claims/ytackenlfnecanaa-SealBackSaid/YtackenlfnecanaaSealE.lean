/-
  Package seal: Open; the reference's. Conditions: the bounds of the kinds; lengths up to maxLen.
-/
import Derived.Test.YtackenlfnecanaaSealD
namespace Go.Proofs.Ytackenlfnecanaa
open Go.RowKit
attribute [local go_sem] Oper.semAt_some
set_option maxHeartbeats 1000000
set_option maxRecDepth 4000

theorem row_take {B : Nat} {w : World} {ad : Option Addr} {cap : Nat} {l : List Int} (h : RowAt B w (.slice ad l.length cap) l.length (intVals .u8 l)) (k : Nat) (hk : k ≤ l.length) :
    RowAt B w (.slice ad k cap) (l.take k).length (intVals .u8 (l.take k)) := by
  obtain ⟨ad', cap', he, ⟨hc, hn⟩, hrow⟩ := h
  cases he
  refine ⟨ad, cap, by rw [List.length_take, Nat.min_eq_left hk], ⟨by rw [List.length_take]; omega, fun h => by have := hn h; rw [List.length_take]; omega⟩, ?_⟩
  rcases hrow with h0 | ⟨b, off, rfl, hbB, hcc⟩
  · left
    have : l = [] := by simpa [intVals] using h0
    subst this; simp [intVals]
  · right
    refine ⟨b, off, rfl, hbB, fun i hi => ?_⟩
    have hi' : i < (intVals .u8 l).length := by rw [intVals_len] at hi ⊢; rw [List.length_take] at hi; omega
    have hik : i < k := by rw [intVals_len, List.length_take] at hi; omega
    rw [hcc i hi']
    simp [intVals, List.getElem?_take_of_lt hik]
theorem and16 (x : Int) (h0 : 0 ≤ x) (h1 : x < 18446744073709551616) : bits BinOp.and IntKind.u64 x 65535 = x % 65536 :=
  bits_mask .u64 64 (by decide) wraps_u64' 16 (by decide) x h0 (by omega)
theorem post_blk3 {P : Program} {fn : Func} {R : Ending → World → Prop} {a : Act} {W : World} {b : Nat} {x0 x1 x2 : Value} {t : TypeId} (hB : Blk W b #[x0, x1, x2] t)
    (h : ∀ W', W' = W → W'.cell? ⟨b, 0, none⟩ = some x0 → W'.cell? ⟨b, 1, none⟩ = some x1 → W'.cell? ⟨b, 2, none⟩ = some x2 → bodyPost P fn R .ret a W') : bodyPost P fn R .ret a W :=
  h W rfl (hB.cell 0 rfl) (hB.cell 1 rfl) (hB.cell 2 rfl)
def OpenPost (w : World) (key at_ : Int) (l : List Int) (err2 err160 : Int) (e : Ending) (w' : World) : Prop :=
  ∃ c s n err : Int, e = .returned (.tuple #[.agg #[.int .i64 c, .int .i64 s, .int .u32 n], .int .i64 err]) ∧ Below w.heap.size w w' ∧
    (l.length ≠ 16 → c = 0 ∧ s = 0 ∧ n = 0 ∧ err = err2) ∧ (l.length = 16 → okI key at_ l = false → c = 0 ∧ s = 0 ∧ n = 0 ∧ err = err160) ∧
    (l.length = 16 → okI key at_ l = true → c = clsI (saidI key at_ l) ∧ s = szI (saidI key at_ l) ∧ n = nonI (saidI key at_ l) ∧ err = 0)
theorem Open_ok (key at_ : Int) (ha : 0 ≤ at_) (ha' : at_ < 4294967296) (v : Value) (l : List Int) (hw : ∀ x ∈ l, 0 ≤ x ∧ x < 256) (hl : l.length ≤ maxLen) (B : Nat) (w : World) (hB : B ≤ w.heap.size) (hv : RowAt B w v l.length (intVals .u8 l)) :
    Calls Try.prog 15 #[.int .u64 key, .int .u32 at_, v] w (OpenPost w key at_ l 2 160) := by
  unfold maxLen at hl
  obtain ⟨ad, cap, rfl, _, _⟩ := id hv
  by_cases h16 : l.length = 16
  · have hv8 := row_take hv 8 (by omega)
    obtain ⟨b, off, rfl, hbB, _⟩ := hv.get 0 (by omega)
    have hcap : (8 : Int) ≤ cap := by obtain ⟨_, _, he, ⟨h, _⟩, _⟩ := hv; cases he; omega
    have h8 : (l.take 8).length = 8 := by rw [List.length_take]; omega
    have hl16 : (((l.length : Nat) : Int)) = 16 := by omega
    have hwr : IntKind.u64.wrap at_ = at_ := wraps_u64' _ ha (by omega)
    obtain ⟨u, hu⟩ : ∃ u, saidI key at_ l = u := ⟨_, rfl⟩
    have hub := said_bd key at_ l
    rw [hu] at hub
    have hw8 : ∀ x ∈ l.take 8, 0 ≤ x ∧ x < 256 := fun x hx => hw x (List.mem_of_mem_take hx)
    have HW := Lib.hid hw8
    have HW1 := Lib.hid hw
    have H8 := Lib.hid h8
    clear hw hw8 h8
    obtain ⟨w0, hw0⟩ : ∃ w0, w.alloc (.cells #[.int .i64 0, .int .i64 0, .int .u32 0] 27) = w0 := ⟨_, rfl⟩
    have hX : Blk w0 w.heap.size #[.int .i64 0, .int .i64 0, .int .u32 0] 27 := by rw [← hw0]; exact Blk.new w _ _
    have hb0 : Below w.heap.size w w0 := by rw [← hw0]; exact (Below.refl _ w).alloc (Nat.le_refl _) _
    have hz0 : w.heap.size + 1 = w0.heap.size := by rw [← hw0]; simp
    go_enter Try.func15, Try.ntmps15
    go_wp2_with fail
    clear hw0
    refine (Get_ok _ (l.take 8) HW.out B _ (by omega) (by rw [H8.out]; rfl) (hv8.below hb0 hB)).mono ?_; rintro e w1 ⟨rfl, h1⟩
    go_wp2_with fail
    refine (Fold_ok _ [key, at_] (w1.heap.size + 1) _ (by simp) (by simp) (RowAt.lit w1 #[.int .u64 key, .int .u64 at_] 22 2 _ (by omega))).mono ?_; rintro e w2 ⟨rfl, h2⟩
    go_wp2_with fail
    refine (Undo_ok _ _ _).mono ?_; rintro e w3 ⟨rfl, h3⟩
    have hk3 : Below w0.heap.size w0 w3 := by
      have z1 := h1.size
      have z2 := h2.size
      simp at z2
      exact (h1.trans (((Below.refl _ w1).alloc (Nat.le_refl _) _).mono z1)).trans ((h2.mono (by simp; omega)).trans (h3.mono (by omega)))
    clear h1 h2 h3
    have z3 := hk3.size
    rw [show undoI (foldI [key, at_]) (valI (l.take 8)) = u from hu]
    have hbd := parts_bd u hub.1 hub.2
    have hc : u / 281474976710656 = clsI u := rfl
    have hn : u % 4294967296 = nonI u := rfl
    have hs : wrap64 (bits BinOp.and IntKind.u64 (u / 4294967296) 65535) = szI u := by
      rw [and16 _ (by omega) (by omega)]
      show wrap64 (szI u) = szI u
      unfold wrap64; omega
    have hY := Blk.new w3 #[.int .i64 (clsI u), .int .i64 (szI u), .int .u32 (nonI u)] 27
    have hk4 := hk3.alloc z3 (.cells #[.int .i64 (clsI u), .int .i64 (szI u), .int .u32 (nonI u)] 27)
    go_wp2_with fail
    refine (Head_ok key at_ (clsI u) (szI u) (nonI u) ha ha' hbd.2.2.2.2.1 hbd.2.2.2.2.2 _).mono ?_; rintro e w4 ⟨v4, e0, rfl, hr4, h4⟩
    have hk5 := hk4.trans (h4.mono hk4.size)
    have hX5 := hX.below hk5 hX.lt
    have hY5 := hY.below h4 (by simp)
    have z5 := h4.size
    simp at z5
    clear h4 hk4 hk3 hc hn hs
    have y0 : w4.cell? ⟨w3.heap.size, 0, none⟩ = some (.int .i64 (clsI u)) := hY5.cell 0 rfl
    have y1 : w4.cell? ⟨w3.heap.size, 1, none⟩ = some (.int .i64 (szI u)) := hY5.cell 1 rfl
    have y2 : w4.cell? ⟨w3.heap.size, 2, none⟩ = some (.int .u32 (nonI u)) := hY5.cell 2 rfl
    have x0 : w4.cell? ⟨w.heap.size, 0, none⟩ = some (.int .i64 0) := hX5.cell 0 rfl
    have x1 : w4.cell? ⟨w.heap.size, 1, none⟩ = some (.int .i64 0) := hX5.cell 1 rfl
    have x2 : w4.cell? ⟨w.heap.size, 2, none⟩ = some (.int .u32 0) := hX5.cell 2 rfl
    have f0 := hX5.frozen 0
    have f1 := hX5.frozen 1
    have f2 := hX5.frozen 2
    cases hr : rightI (clsI u) (szI u)
    · obtain ⟨rfl, rfl⟩ := hr4.2 hr
      have hok : okI key at_ l = false := by unfold okI; rw [hu, hr]; rfl
      go_wp2_with fail
      have hXf := ((hX5.set 0 (.int .i64 0)).set 1 (.int .i64 0)).set 2 (.int .u32 0)
      have hkf := (((hk5.mono (Nat.le_of_lt (Nat.lt_of_lt_of_eq (Nat.lt_succ_self _) hz0))).setCell (p := ⟨w.heap.size, 0, none⟩) (Nat.le_refl _) (.int .i64 0)).setCell (p := ⟨w.heap.size, 1, none⟩) (Nat.le_refl _) (.int .i64 0)).setCell (p := ⟨w.heap.size, 2, none⟩) (Nat.le_refl _) (.int .u32 0)
      clear x0 x1 x2 y0 y1 y2 f0 f1 f2
      refine post_blk3 (x0 := .int .i64 0) (x1 := .int .i64 0) (x2 := .int .u32 0) hXf ?_
      intro W' hW d0 d1 d2
      rw [← hW] at hkf
      refine bodyPost_ret (v := .tuple #[.agg #[.int .i64 0, .int .i64 0, .int .u32 0], .int .i64 160]) (by simp [results, Try.results15, go_sem, d0, d1, d2]) rfl ⟨_, _, _, _, rfl, hb0.trans hkf, ?_⟩
      exact ⟨fun h => absurd h16 h, fun _ _ => ⟨rfl, rfl, rfl, rfl⟩, fun _ h => by rw [hok] at h; cases h⟩
    · obtain ⟨rfl, ho⟩ := hr4.1 hr
      have hrow4 : RowAt w4.heap.size w4 v4 (sealB (foldI [key, at_]) (wordI (clsI u) (szI u) (nonI u))).length (intVals .u8 (sealB (foldI [key, at_]) (wordI (clsI u) (szI u) (nonI u)))) := by
        rw [sealB_len]; exact RowAt.of_owns ho (Nat.le_refl _)
      have hrowl : RowAt w4.heap.size w4 (.slice (some ⟨b, off, none⟩) l.length cap) l.length (intVals .u8 l) := ((hv.below hb0 hB).below hk5 (by omega)).mono (by have := hk5.size; omega)
      rw [h16] at hrowl
      have hE := Equal_ok v4 (.slice (some ⟨b, off, none⟩) 16 cap) (sealB (foldI [key, at_]) (wordI (clsI u) (szI u) (nonI u))) l w4.heap.size w4 (Nat.le_refl _) (by rw [sealB_len]; unfold maxLen; omega) (by unfold maxLen; omega) hrow4 (by rw [h16]; exact hrowl)
      cases hq : decide (sealB (foldI [key, at_]) (wordI (clsI u) (szI u) (nonI u)) = l)
      · have hok : okI key at_ l = false := by unfold okI; rw [hu, hr, hq]; rfl
        rw [hq] at hE
        go_wp2_with fail
        refine hE.mono ?_; rintro e w5 ⟨rfl, h5⟩
        have hk6 := hk5.trans (h5.mono hk5.size)
        have hX6 := hX5.below h5 hX5.lt
        clear hX5 hk5 x0 x1 x2 y0 y1 y2 f0 f1 f2 hE hrow4 hrowl ho
        have hk5 := hk6
        have hX5 := hX6
        clear hk6 hX6
        have x0 : w5.cell? ⟨w.heap.size, 0, none⟩ = some (.int .i64 0) := hX5.cell 0 rfl
        have x1 : w5.cell? ⟨w.heap.size, 1, none⟩ = some (.int .i64 0) := hX5.cell 1 rfl
        have x2 : w5.cell? ⟨w.heap.size, 2, none⟩ = some (.int .u32 0) := hX5.cell 2 rfl
        have f0 := hX5.frozen 0
        have f1 := hX5.frozen 1
        have f2 := hX5.frozen 2
        go_wp2_with fail
        have hXf := ((hX5.set 0 (.int .i64 0)).set 1 (.int .i64 0)).set 2 (.int .u32 0)
        have hkf := (((hk5.mono (Nat.le_of_lt (Nat.lt_of_lt_of_eq (Nat.lt_succ_self _) hz0))).setCell (p := ⟨w.heap.size, 0, none⟩) (Nat.le_refl _) (.int .i64 0)).setCell (p := ⟨w.heap.size, 1, none⟩) (Nat.le_refl _) (.int .i64 0)).setCell (p := ⟨w.heap.size, 2, none⟩) (Nat.le_refl _) (.int .u32 0)
        clear x0 x1 x2 f0 f1 f2
        refine post_blk3 (x0 := .int .i64 0) (x1 := .int .i64 0) (x2 := .int .u32 0) hXf ?_
        intro W' hW d0 d1 d2
        rw [← hW] at hkf
        refine bodyPost_ret (v := .tuple #[.agg #[.int .i64 0, .int .i64 0, .int .u32 0], .int .i64 160]) (by simp [results, Try.results15, go_sem, d0, d1, d2]) rfl ⟨_, _, _, _, rfl, hb0.trans hkf, ?_⟩
        exact ⟨fun h => absurd h16 h, fun _ _ => ⟨rfl, rfl, rfl, rfl⟩, fun _ h => by rw [hok] at h; cases h⟩
      · have hok : okI key at_ l = true := by unfold okI; rw [hu, hr, hq]; rfl
        rw [hq] at hE
        go_wp2_with fail
        refine hE.mono ?_; rintro e w5 ⟨rfl, h5⟩
        have hk6 := hk5.trans (h5.mono hk5.size)
        have hX6 := hX5.below h5 hX5.lt
        have hY6 := hY5.below h5 hY5.lt
        clear hX5 hY5 hk5 x0 x1 x2 y0 y1 y2 f0 f1 f2 hE hrow4 hrowl ho
        have hk5 := hk6
        have hX5 := hX6
        clear hk6 hX6
        have x0 : w5.cell? ⟨w.heap.size, 0, none⟩ = some (.int .i64 0) := hX5.cell 0 rfl
        have x1 : w5.cell? ⟨w.heap.size, 1, none⟩ = some (.int .i64 0) := hX5.cell 1 rfl
        have x2 : w5.cell? ⟨w.heap.size, 2, none⟩ = some (.int .u32 0) := hX5.cell 2 rfl
        have y0 : w5.cell? ⟨w3.heap.size, 0, none⟩ = some (.int .i64 (clsI u)) := hY6.cell 0 rfl
        have y1 : w5.cell? ⟨w3.heap.size, 1, none⟩ = some (.int .i64 (szI u)) := hY6.cell 1 rfl
        have y2 : w5.cell? ⟨w3.heap.size, 2, none⟩ = some (.int .u32 (nonI u)) := hY6.cell 2 rfl
        have f0 := hX5.frozen 0
        have f1 := hX5.frozen 1
        have f2 := hX5.frozen 2
        go_wp2_with fail
        have hXf := ((hX5.set 0 (.int .i64 (clsI u))).set 1 (.int .i64 (szI u))).set 2 (.int .u32 (nonI u))
        have hkf := (((hk5.mono (Nat.le_of_lt (Nat.lt_of_lt_of_eq (Nat.lt_succ_self _) hz0))).setCell (p := ⟨w.heap.size, 0, none⟩) (Nat.le_refl _) (.int .i64 (clsI u))).setCell (p := ⟨w.heap.size, 1, none⟩) (Nat.le_refl _) (.int .i64 (szI u))).setCell (p := ⟨w.heap.size, 2, none⟩) (Nat.le_refl _) (.int .u32 (nonI u))
        clear x0 x1 x2 y0 y1 y2 f0 f1 f2
        refine post_blk3 (x0 := .int .i64 (clsI u)) (x1 := .int .i64 (szI u)) (x2 := .int .u32 (nonI u)) hXf ?_
        intro W' hW d0 d1 d2
        rw [← hW] at hkf
        refine bodyPost_ret (v := .tuple #[.agg #[.int .i64 (clsI u), .int .i64 (szI u), .int .u32 (nonI u)], .int .i64 0]) (by simp [results, Try.results15, go_sem, d0, d1, d2]) rfl ⟨_, _, _, _, rfl, hb0.trans hkf, ?_⟩
        exact ⟨fun h => absurd h16 h, fun _ h => (by rw [hok] at h; cases h), fun _ _ => by rw [hu]; exact ⟨rfl, rfl, rfl, rfl⟩⟩
  · have hl16 : (((l.length : Nat) : Int) = 16) = False := by simp; omega
    have hl16' : (((l.length : Nat) : Int) == 16) = false := by simp; omega
    have hl16n : (((l.length : Nat) : Int) != 16) = true := by simp; omega
    go_enter Try.func15, Try.ntmps15
    go_wp2_with fail
    refine bodyPost_ret (v := .tuple #[.agg #[.int .i64 0, .int .i64 0, .int .u32 0], .int .i64 2]) (by simp [results, Try.results15, go_sem]) rfl ⟨_, _, _, _, rfl, ?_, ?_⟩
    · exact (Below.refl _ w).alloc (Nat.le_refl _) _
    · exact ⟨fun _ => ⟨rfl, rfl, rfl, rfl⟩, fun h => absurd h h16, fun h => absurd h h16⟩
end Go.Proofs.Ytackenlfnecanaa
