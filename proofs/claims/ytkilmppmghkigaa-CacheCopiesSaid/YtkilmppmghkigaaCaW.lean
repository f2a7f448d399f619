/-
  Package cache: calls of no shelves, of zero ones. No condition.
-/
import Derived.Test.YtkilmppmghkigaaCaRI
import Derived.Test.YtkilmppmghkigaaCaJ
import Derived.Test.YtkilmppmghkigaaCaL
namespace Go.Proofs.Ytkilmppmghkigaa
open Go.RowKit
attribute [local go_sem] Oper.semAt_some
set_option maxHeartbeats 4000000
set_option maxRecDepth 8000

/-- No shelves, or zero ones. -/
def NoSh (W : World) (p : Option Addr) : Prop := p = none ∨ ∃ s, p = some ⟨s, 0, none⟩ ∧ W.cell? ⟨s, 32, none⟩ = some (.bool false)
theorem NoSh.step {W W' : World} {p : Option Addr} (h : NoSh W p) (k : Below W.heap.size W W') : NoSh W' p := by
  rcases h with h | ⟨s, h1, h2⟩
  · exact .inl h
  · exact .inr ⟨s, h1, (k.cell (p := ⟨s, 32, none⟩) (World.block_lt_of_cell? W _ h2)).trans h2⟩
theorem none_none {w : World} {p : Option Addr} (h : NoSh w p) : Calls Try.prog 44 #[.pointer p] w fun e w' => e = .returned (.bool true) ∧ Below w.heap.size w w' := by
  rcases h with rfl | ⟨s, rfl, c⟩
  · go_enter Try.func44, Try.ntmps44
    go_wp2_with fail
    go_ret
    exact ⟨rfl, Below.refl _ _⟩
  · go_enter Try.func44, Try.ntmps44
    go_wp2_with fail
    go_ret
    exact ⟨rfl, Below.refl _ _⟩
/-- The first question is answered by yes; the others are not asked. -/
theorem no_answers {w : World} {p : Option Addr} (h : NoSh w p) (l : List Ask) (hl : ∀ a ∈ l, (a.fn = 53 ∨ a.fn = 29 ∨ a.fn = 30)) : Answers w (⟨44, #[.pointer p], #[], 1, true⟩ :: l) := by
  constructor
  · intro i hi args W
    cases i with
    | zero => exact enters_of Try.func44 (by kernel_rfl) rfl args W
    | succ j =>
      have hj : j < l.length := by simpa using hi
      rcases hl l[j] (List.getElem_mem hj) with e | e | e
      · simp only [List.getElem_cons_succ, e]; exact enters_of Try.func53 (by kernel_rfl) rfl args W
      · simp only [List.getElem_cons_succ, e]; exact enters_of Try.func29 (by kernel_rfl) rfl args W
      · simp only [List.getElem_cons_succ, e]; exact enters_of Try.func30 (by kernel_rfl) rfl args W
  · intro i hi hno W k
    cases i with
    | zero => exact none_none (h.step k)
    | succ j => have := hno 0 (by simp) (by omega); simp at this
def shN (p : Option Addr) (p1 p2 : Nat) : List Ask :=
  ⟨44, #[.pointer p], #[], 1, true⟩ :: [⟨53, #[], #[.pointer (some ⟨p1, 0, none⟩), .pointer (some ⟨p1 + 1, 0, none⟩)], 2, false⟩,
   ⟨53, #[], #[.pointer (some ⟨p2, 0, none⟩), .pointer (some ⟨p2 + 1, 0, none⟩)], 2, false⟩]
theorem shelf_none {w : World} {p : Option Addr} (hS : NoSh w p) (t c : Int) : Calls Try.prog 33 #[.pointer p, .int .i64 t, .int .i64 c] w fun e w' => e = .returned (.int .i64 1) ∧ Below w.heap.size w w' := by
  go_enter Try.func33, Try.ntmps33
  go_wp2_with fail
  refine (is_calls _ _).mono ?_; rintro e w1 ⟨rfl, k1⟩
  go_wp2_with fail
  refine (in_calls t 4 2 _).mono ?_; rintro e w2 ⟨rfl, _, _, j2⟩
  have k2 := k1.trans (j2.mono k1.size)
  go_wp2_with fail
  refine (in_calls c 8 2 _).mono ?_; rintro e w3 ⟨rfl, _, _, j3⟩
  have k3 := k2.trans (j3.mono k2.size)
  go_wp2_with fail
  have jx : Below w3.heap.size w3 (w3.alloc (.cells (askList (shN p w1.heap.size w2.heap.size)).toArray 66)) := (Below.refl _ w3).alloc (Nat.le_refl _) _
  have k4 := k3.trans (jx.mono k3.size)
  have hrow : AskRow (w3.alloc (.cells (askList (shN p w1.heap.size w2.heap.size)).toArray 66)) w3.heap.size (shN p w1.heap.size w2.heap.size) := askRow_of (Blk.new w3 _ _)
  have hans := no_answers (hS.step k4) (shN p w1.heap.size w2.heap.size).tail (by intro a ha; simp [shN] at ha; rcases ha with rfl | rfl <;> exact .inl rfl)
  refine (asked_ok _ w3.heap.size 3 3 (shN p w1.heap.size w2.heap.size) rfl (by simp [shN]) (Lib.hid hrow) (Lib.hid hans)).mono ?_; rintro e w4 ⟨rfl, h4⟩
  rw [show firstErr (shN p w1.heap.size w2.heap.size) = 1 by simp [firstErr, shN]]
  go_wp2_with fail
  go_ret
  exact ⟨rfl, k4.trans (h4.mono k4.size)⟩
theorem Take_none {w : World} {p : Option Addr} (hS : NoSh w p) (t c : Int) : Calls Try.prog 11 #[.pointer p, .int .i64 t, .int .i64 c] w fun e w' => e = .returned (.tuple #[.int .i64 0, .int .i64 1]) ∧ Below w.heap.size w w' := by
  go_enter Try.func11, Try.ntmps11
  go_wp2_with fail
  refine (shelf_none hS t c).mono ?_; rintro e w1 ⟨rfl, k1⟩
  go_wp2_with fail
  go_ret2
  exact ⟨rfl, k1⟩
theorem Spill_none {w : World} {p : Option Addr} (hS : NoSh w p) (t c : Int) : Calls Try.prog 12 #[.pointer p, .int .i64 t, .int .i64 c] w fun e w' => e = .returned (.tuple #[.slice none 0 0, .int .i64 1]) ∧ Below w.heap.size w w' := by
  go_enter Try.func12, Try.ntmps12
  go_wp2_with fail
  refine (shelf_none hS t c).mono ?_; rintro e w1 ⟨rfl, k1⟩
  go_wp2_with fail
  go_ret2
  exact ⟨rfl, k1⟩
theorem Clear_none {w : World} {p : Option Addr} (hS : NoSh w p) (t : Int) : Calls Try.prog 41 #[.pointer p, .int .i64 t] w fun e w' => e = .returned (.tuple #[.int .i64 0, .int .i64 1]) ∧ Below w.heap.size w w' := by
  go_enter Try.func41, Try.ntmps41
  go_wp2_with fail
  refine (shelf_none hS t 0).mono ?_; rintro e w1 ⟨rfl, k1⟩
  go_wp2_with fail
  go_ret2
  exact ⟨rfl, k1⟩
theorem On_none {w : World} {p : Option Addr} (hS : NoSh w p) (t c : Int) : Calls Try.prog 15 #[.pointer p, .int .i64 t, .int .i64 c] w fun e w' => e = .returned (.slice none 0 0) ∧ Below w.heap.size w w' := by
  go_enter Try.func15, Try.ntmps15
  go_wp2_with fail
  refine (shelf_none hS t c).mono ?_; rintro e w1 ⟨rfl, k1⟩
  go_wp2_with fail
  go_ret
  exact ⟨rfl, k1⟩
theorem Len_none {w : World} {p : Option Addr} (hS : NoSh w p) (t c : Int) : Calls Try.prog 42 #[.pointer p, .int .i64 t, .int .i64 c] w fun e w' => e = .returned (.int .i64 0) ∧ Below w.heap.size w w' := by
  go_enter Try.func42, Try.ntmps42
  go_wp2_with fail
  refine (On_none hS t c).mono ?_; rintro e w1 ⟨rfl, k1⟩
  go_wp2_with fail
  go_ret
  exact ⟨rfl, k1⟩
theorem Has_none {w : World} {p : Option Addr} (hS : NoSh w p) (c x : Int) : Calls Try.prog 24 #[.pointer p, .int .i64 c, .int .i64 x] w fun e w' => e = .returned (.tuple #[.int .i64 0, .bool false]) ∧ Below w.heap.size w w' := by
  obtain ⟨w0, hw0⟩ : ∃ w0, (w.alloc (.cells #[.int .i64 c] 3)).alloc (.cells #[.int .i64 x] 3) = w0 := ⟨_, rfl⟩
  have hb0 : Below w.heap.size w w0 := by rw [← hw0]; exact ((Below.refl _ w).alloc (Nat.le_refl _) _).alloc (by simp) _
  have h0 := hS.step hb0
  go_enter Try.func24, Try.ntmps24
  go_wp2_with fail
  refine (none_none h0).mono ?_; rintro e w1 ⟨rfl, k1⟩
  go_wp2_with fail
  go_ret2
  exact ⟨rfl, hb0.trans (k1.mono hb0.size)⟩
theorem Copy_none {w : World} {p : Option Addr} (hS : NoSh w p) : Calls Try.prog 20 #[.pointer p] w fun e w' => e = .returned (.pointer none) ∧ Below w.heap.size w w' := by
  go_enter Try.func20, Try.ntmps20
  go_wp2_with fail
  refine (none_none hS).mono ?_; rintro e w1 ⟨rfl, k1⟩
  go_wp2_with fail
  go_ret
  exact ⟨rfl, k1⟩
theorem Same_nn {w : World} {p q : Option Addr} (hS : NoSh w p) (hT : NoSh w q) : Calls Try.prog 19 #[.pointer p, .pointer q] w fun e w' => e = .returned (.bool true) ∧ Below w.heap.size w w' := by
  go_enter Try.func19, Try.ntmps19
  go_wp2_with fail
  refine (none_none hS).mono ?_; rintro e w1 ⟨rfl, k1⟩
  go_wp2_with fail
  refine (none_none (hS.step k1)).mono ?_; rintro e w2 ⟨rfl, k2⟩
  have k12 := k1.trans (k2.mono k1.size)
  go_wp2_with fail
  refine (none_none (hT.step k12)).mono ?_; rintro e w3 ⟨rfl, k3⟩
  go_wp2_with fail
  go_ret
  exact ⟨rfl, k12.trans (k3.mono k12.size)⟩
theorem Same_ln {w : World} {s : Nat} {L : Nat → List Int} {q : Option Addr} (hS : ShAt w s L) (hT : NoSh w q) : Calls Try.prog 19 #[.pointer (some ⟨s, 0, none⟩), .pointer q] w fun e w' => e = .returned (.bool false) ∧ Below w.heap.size w w' := by
  go_enter Try.func19, Try.ntmps19
  go_wp2_with fail
  refine (none_live hS).mono ?_; rintro e w1 ⟨rfl, k1⟩
  go_wp2_with fail
  refine (none_none (hT.step k1)).mono ?_; rintro e w2 ⟨rfl, k2⟩
  have k12 := k1.trans (k2.mono k1.size)
  go_wp2_with fail
  refine (none_live (hS.step k12)).mono ?_; rintro e w3 ⟨rfl, k3⟩
  go_wp2_with fail
  go_ret
  exact ⟨rfl, k12.trans (k3.mono k12.size)⟩
theorem Same_nl {w : World} {s : Nat} {L : Nat → List Int} {q : Option Addr} (hS : ShAt w s L) (hT : NoSh w q) : Calls Try.prog 19 #[.pointer q, .pointer (some ⟨s, 0, none⟩)] w fun e w' => e = .returned (.bool false) ∧ Below w.heap.size w w' := by
  go_enter Try.func19, Try.ntmps19
  go_wp2_with fail
  refine (none_none hT).mono ?_; rintro e w1 ⟨rfl, k1⟩
  go_wp2_with fail
  refine (none_none (hT.step k1)).mono ?_; rintro e w2 ⟨rfl, k2⟩
  have k12 := k1.trans (k2.mono k1.size)
  go_wp2_with fail
  refine (none_live (hS.step k12)).mono ?_; rintro e w3 ⟨rfl, k3⟩
  go_wp2_with fail
  go_ret
  exact ⟨rfl, k12.trans (k3.mono k12.size)⟩
def drN (p : Option Addr) (p1 p2 : Nat) : List Ask :=
  ⟨44, #[.pointer p], #[], 1, true⟩ :: [⟨53, #[], #[.pointer (some ⟨p1, 0, none⟩), .pointer (some ⟨p1 + 1, 0, none⟩)], 2, false⟩,
   ⟨53, #[], #[.pointer (some ⟨p2, 0, none⟩), .pointer (some ⟨p2 + 1, 0, none⟩)], 4, false⟩]
theorem Drop_none {w : World} {p : Option Addr} (hS : NoSh w p) (c x : Int) : Calls Try.prog 13 #[.pointer p, .int .i64 c, .int .i64 x] w fun e w' => e = .returned (.tuple #[.int .i64 0, .int .i64 1]) ∧ Below w.heap.size w w' := by
  obtain ⟨w0, hw0⟩ : ∃ w0, w.alloc (.cells #[.int .i64 x] 3) = w0 := ⟨_, rfl⟩
  have hA : Blk w0 w.heap.size #[.int .i64 x] 3 := by rw [← hw0]; exact Blk.new w _ _
  have hb0 : Below w.heap.size w w0 := by rw [← hw0]; exact (Below.refl _ w).alloc (Nat.le_refl _) _
  have h0 := hS.step hb0
  have z0 := hb0.size
  have a0 : w0.cell? ⟨w.heap.size, 0, none⟩ = some (.int .i64 x) := hA.cell 0 rfl
  have hcx : ∀ Y, Below w0.heap.size w0 Y → DrS w.heap.size x Y := fun Y k => ⟨(k.cell (p := ⟨w.heap.size, 0, none⟩) hA.lt).trans a0⟩
  have HCX := Lib.hid hcx
  clear hcx
  go_enter Try.func13, Try.ntmps13
  go_wp2_with fail
  clear hw0
  refine wp_region_held_drew (S := DrS w.heap.size x) (by kernel_rfl) (HCX.out _ (Below.refl _ w0).drew) (fun hHeld => ?_)
  refine wpAnyH_take (i := 0) (v := ?_) rfl (by kernel_rfl) (by kernel_rfl) (by kernel_rfl) (fun _ _ _ h => h) (Or.inl ⟨by rfl, ?_⟩) (by assumption) ?_
  rotate_left
  · (intro Y hSw; (try dsimp only at hSw); obtain ⟨hS0⟩ := hSw; go_simp; try with_reducible rfl)
  try simp only [Act.put, List.getElem_toArray, List.getElem_cons_zero, List.getElem_cons_succ, List.setIfInBounds_toArray, List.set_cons_zero, List.set_cons_succ]
  refine wpAnyH_take (i := 2) (v := ?_) rfl (by kernel_rfl) (by kernel_rfl) (by kernel_rfl) (fun _ _ _ h => h) (Or.inl ⟨by rfl, ?_⟩) (by assumption) ?_
  rotate_left
  · (intro Y hSw; (try dsimp only at hSw); obtain ⟨hS0⟩ := hSw; go_simp; try with_reducible rfl)
  try simp only [Act.put, List.getElem_toArray, List.getElem_cons_zero, List.getElem_cons_succ, List.setIfInBounds_toArray, List.set_cons_zero, List.set_cons_succ]
  refine wpAnyH_take (i := 4) (v := ?_) rfl (by kernel_rfl) (by kernel_rfl) (by kernel_rfl) (fun _ _ _ h => h) (Or.inl ⟨by rfl, ?_⟩) (by assumption) ?_
  rotate_left
  · (intro Y hSw; (try dsimp only at hSw); obtain ⟨hS0⟩ := hSw; go_simp; try with_reducible rfl)
  try simp only [Act.put, List.getElem_toArray, List.getElem_cons_zero, List.getElem_cons_succ, List.setIfInBounds_toArray, List.set_cons_zero, List.set_cons_succ]
  refine wpAnyH_ready (rs := [1]) (by kernel_rfl) (by simp) ?_
  refine AllReadyH.cons rfl (fun K hK => ?_) AllReadyH.nil
  go_simp
  refine (is_calls _ _).mono ?_; rintro e w1 ⟨rfl, h1⟩
  have k1 := (Below.refl w0.heap.size w0).drew.trans (h1.mono (Nat.le_refl _))
  go_wp2_with fail
  refine hK.out _ _ (HCX.out _ k1) (fun hHeld => ?_)
  clear hK K
  try simp only [Act.put, List.getElem_toArray, List.getElem_cons_zero, List.getElem_cons_succ, List.setIfInBounds_toArray, List.set_cons_zero, List.set_cons_succ]
  refine wpAnyH_ready (rs := [3]) (by kernel_rfl) (by simp) ?_
  refine AllReadyH.cons rfl (fun K hK => ?_) AllReadyH.nil
  go_simp
  refine (in_calls c 8 2 _).mono ?_; rintro e w2 ⟨rfl, _, _, h2⟩
  have k2 := k1.trans (h2.mono k1.size)
  go_wp2_with fail
  refine hK.out _ _ (HCX.out _ k2) (fun hHeld => ?_)
  clear hK K
  try simp only [Act.put, List.getElem_toArray, List.getElem_cons_zero, List.getElem_cons_succ, List.setIfInBounds_toArray, List.set_cons_zero, List.set_cons_succ]
  refine wpAnyH_ready (rs := [5]) (by kernel_rfl) (by simp) ?_
  refine AllReadyH.cons rfl (fun K hK => ?_) AllReadyH.nil
  go_simp
  refine (in_calls x 256 4 _).mono ?_; rintro e w3 ⟨rfl, _, _, h3⟩
  have k3 := k2.trans (h3.mono k2.size)
  have z3 := k3.size
  go_wp2_with fail
  refine hK.out _ _ (HCX.out _ k3) (fun hHeld => ?_)
  clear hK K
  try simp only [Act.put, List.getElem_toArray, List.getElem_cons_zero, List.getElem_cons_succ, List.setIfInBounds_toArray, List.set_cons_zero, List.set_cons_succ]
  refine wpAnyH_ready (rs := [6]) (by kernel_rfl) (by simp) ?_
  refine AllReadyH.cons rfl (fun K hK => ?_) AllReadyH.nil
  go_simp
  have jx : Below w3.heap.size w3 (w3.alloc (.cells (askList (drN p w1.heap.size w2.heap.size)).toArray 66)) := (Below.refl _ w3).alloc (Nat.le_refl _) _
  have k4 := k3.trans (jx.mono z3)
  have hrow : AskRow (w3.alloc (.cells (askList (drN p w1.heap.size w2.heap.size)).toArray 66)) w3.heap.size (drN p w1.heap.size w2.heap.size) := askRow_of (Blk.new w3 _ _)
  refine hK.out _ _ (HCX.out _ k4) (fun hHeld => ?_)
  clear hK K
  try simp only [Act.put, List.getElem_toArray, List.getElem_cons_zero, List.getElem_cons_succ, List.setIfInBounds_toArray, List.set_cons_zero, List.set_cons_succ]
  change wpAnyH _ _ _ _ _ _ _ _ (w3.alloc (.cells (askList (drN p w1.heap.size w2.heap.size)).toArray 66))
  generalize (w3.alloc (.cells (askList (drN p w1.heap.size w2.heap.size)).toArray 66)) = w4 at k4 hrow hHeld jx ⊢
  have hans := no_answers (h0.step k4) (drN p w1.heap.size w2.heap.size).tail (by intro a ha; simp [drN] at ha; rcases ha with rfl | rfl <;> exact .inl rfl)
  refine wpAnyH_ready (rs := [7]) (by kernel_rfl) (by simp) ?_
  refine AllReadyH.cons rfl (fun K hK => ?_) AllReadyH.nil
  go_simp
  refine (asked_ok w4 w3.heap.size 3 3 (drN p w1.heap.size w2.heap.size) rfl (by simp [drN]) (Lib.hid hrow) (Lib.hid hans)).mono ?_; rintro e w5 ⟨rfl, h5⟩
  rw [show firstErr (drN p w1.heap.size w2.heap.size) = 1 by simp [firstErr, drN]]
  have k5 := k4.trans (h5.mono k4.size)
  go_wp2_with fail
  refine hK.out _ _ (HCX.out _ k5) (fun hHeld => ?_)
  clear hK K
  try simp only [Act.put, List.getElem_toArray, List.getElem_cons_zero, List.getElem_cons_succ, List.setIfInBounds_toArray, List.set_cons_zero, List.set_cons_succ]
  refine wpAnyH_take (i := 8) (v := ?_) rfl (by kernel_rfl) (by kernel_rfl) (by kernel_rfl) (fun _ _ _ h => h) (Or.inl ⟨by rfl, ?_⟩) (by assumption) ?_
  rotate_left
  · (intro Y hSw; (try dsimp only at hSw); obtain ⟨hS0⟩ := hSw; go_simp; try with_reducible rfl)
  try simp only [Act.put, List.getElem_toArray, List.getElem_cons_zero, List.getElem_cons_succ, List.setIfInBounds_toArray, List.set_cons_zero, List.set_cons_succ]
  refine wpAnyH_done (by kernel_rfl) ?_ _
  go_wp2_with fail
  go_ret2
  exact ⟨rfl, hb0.trans (k5.mono z0)⟩
def putN (p : Option Addr) (p1 p2 p3 ps pt pc px : Nat) : List Ask :=
  ⟨44, #[.pointer p], #[], 1, true⟩ :: [⟨53, #[], #[.pointer (some ⟨p1, 0, none⟩), .pointer (some ⟨p1 + 1, 0, none⟩)], 2, false⟩,
   ⟨53, #[], #[.pointer (some ⟨p2, 0, none⟩), .pointer (some ⟨p2 + 1, 0, none⟩)], 2, false⟩, ⟨53, #[], #[.pointer (some ⟨p3, 0, none⟩), .pointer (some ⟨p3 + 1, 0, none⟩)], 4, false⟩,
   ⟨29, #[], #[.pointer (some ⟨ps, 0, none⟩), .pointer (some ⟨pc, 0, none⟩), .pointer (some ⟨px, 0, none⟩)], 280, false⟩,
   ⟨30, #[], #[.pointer (some ⟨ps, 0, none⟩), .pointer (some ⟨pt, 0, none⟩), .pointer (some ⟨pc, 0, none⟩)], 3, false⟩]
structure PutN (w0 : World) (ps pt pc px : Nat) (p : Option Addr) (t c x : Int) (Y : World) : Prop where
  bel : Below w0.heap.size w0 Y
  cs : Y.cell? ⟨ps, 0, none⟩ = some (.pointer p)
  ct : Y.cell? ⟨pt, 0, none⟩ = some (.int .i64 t)
  cc : Y.cell? ⟨pc, 0, none⟩ = some (.int .i64 c)
  cx : Y.cell? ⟨px, 0, none⟩ = some (.int .i64 x)
theorem PutN.of {w0 Y : World} {ps pt pc px : Nat} {p : Option Addr} {t c x : Int} (hs : w0.cell? ⟨ps, 0, none⟩ = some (.pointer p)) (ht : w0.cell? ⟨pt, 0, none⟩ = some (.int .i64 t)) (hc : w0.cell? ⟨pc, 0, none⟩ = some (.int .i64 c)) (hx : w0.cell? ⟨px, 0, none⟩ = some (.int .i64 x))
    (h : Below w0.heap.size w0 Y) : PutN w0 ps pt pc px p t c x Y :=
  ⟨h, (h.cell (p := ⟨ps, 0, none⟩) (World.block_lt_of_cell? w0 _ hs)).trans hs, (h.cell (p := ⟨pt, 0, none⟩) (World.block_lt_of_cell? w0 _ ht)).trans ht, (h.cell (p := ⟨pc, 0, none⟩) (World.block_lt_of_cell? w0 _ hc)).trans hc, (h.cell (p := ⟨px, 0, none⟩) (World.block_lt_of_cell? w0 _ hx)).trans hx⟩
theorem Put_none {w : World} {p : Option Addr} (hS : NoSh w p) (t c x : Int) : Calls Try.prog 10 #[.pointer p, .int .i64 t, .int .i64 c, .int .i64 x] w fun e w' => e = .returned (.int .i64 1) ∧ Below w.heap.size w w' := by
  obtain ⟨w0, hw0⟩ : ∃ w0, (((w.alloc (.cells #[.pointer p] 27)).alloc (.cells #[.int .i64 t] 3)).alloc (.cells #[.int .i64 c] 3)).alloc (.cells #[.int .i64 x] 3) = w0 := ⟨_, rfl⟩
  have hA : Blk w0 w.heap.size #[.pointer p] 27 := by rw [← hw0]; exact (((Blk.new w _ _).alloc _).alloc _).alloc _
  have hB : Blk w0 (w.heap.size + 1) #[.int .i64 t] 3 := by rw [← hw0]; exact ((Blk.newAt _ _ _ (by simp)).alloc _).alloc _
  have hC : Blk w0 (w.heap.size + 1 + 1) #[.int .i64 c] 3 := by rw [← hw0]; exact (Blk.newAt _ _ _ (by simp)).alloc _
  have hD : Blk w0 (w.heap.size + 1 + 1 + 1) #[.int .i64 x] 3 := by rw [← hw0]; exact Blk.newAt _ _ _ (by simp)
  have hb0 : Below w.heap.size w w0 := by rw [← hw0]; exact ((((Below.refl _ w).alloc (Nat.le_refl _) _).alloc (by simp) _).alloc (by simp; omega) _).alloc (by simp; omega) _
  have h0 := hS.step hb0
  have z0 := hb0.size
  have a0 : w0.cell? ⟨w.heap.size, 0, none⟩ = some (.pointer p) := hA.cell 0 rfl
  have a1 : w0.cell? ⟨w.heap.size + 1, 0, none⟩ = some (.int .i64 t) := hB.cell 0 rfl
  have a2 : w0.cell? ⟨w.heap.size + 1 + 1, 0, none⟩ = some (.int .i64 c) := hC.cell 0 rfl
  have a3 : w0.cell? ⟨w.heap.size + 1 + 1 + 1, 0, none⟩ = some (.int .i64 x) := hD.cell 0 rfl
  go_enter Try.func10, Try.ntmps10
  go_wp2_with fail
  clear hw0
  refine wp_region_held_drew (S := PutN w0 w.heap.size (w.heap.size + 1) (w.heap.size + 1 + 1) (w.heap.size + 1 + 1 + 1) p t c x) (by kernel_rfl) (PutN.of a0 a1 a2 a3 (Below.refl _ w0).drew) (fun hHeld => ?_)
  refine wpAnyH_take (i := 0) (v := ?_) rfl (by kernel_rfl) (by kernel_rfl) (by kernel_rfl) (fun _ _ _ h => h) (Or.inl ⟨by rfl, ?_⟩) (by assumption) ?_
  rotate_left
  · (intro Y hSw; (try dsimp only at hSw); obtain ⟨hS0, hS1, hS2, hS3, hS4⟩ := hSw; go_simp; try with_reducible rfl)
  try simp only [Act.put, List.getElem_toArray, List.getElem_cons_zero, List.getElem_cons_succ, List.setIfInBounds_toArray, List.set_cons_zero, List.set_cons_succ]
  refine wpAnyH_take (i := 2) (v := ?_) rfl (by kernel_rfl) (by kernel_rfl) (by kernel_rfl) (fun _ _ _ h => h) (Or.inl ⟨by rfl, ?_⟩) (by assumption) ?_
  rotate_left
  · (intro Y hSw; (try dsimp only at hSw); obtain ⟨hS0, hS1, hS2, hS3, hS4⟩ := hSw; go_simp; try with_reducible rfl)
  try simp only [Act.put, List.getElem_toArray, List.getElem_cons_zero, List.getElem_cons_succ, List.setIfInBounds_toArray, List.set_cons_zero, List.set_cons_succ]
  refine wpAnyH_take (i := 4) (v := ?_) rfl (by kernel_rfl) (by kernel_rfl) (by kernel_rfl) (fun _ _ _ h => h) (Or.inl ⟨by rfl, ?_⟩) (by assumption) ?_
  rotate_left
  · (intro Y hSw; (try dsimp only at hSw); obtain ⟨hS0, hS1, hS2, hS3, hS4⟩ := hSw; go_simp; try with_reducible rfl)
  try simp only [Act.put, List.getElem_toArray, List.getElem_cons_zero, List.getElem_cons_succ, List.setIfInBounds_toArray, List.set_cons_zero, List.set_cons_succ]
  refine wpAnyH_take (i := 6) (v := ?_) rfl (by kernel_rfl) (by kernel_rfl) (by kernel_rfl) (fun _ _ _ h => h) (Or.inl ⟨by rfl, ?_⟩) (by assumption) ?_
  rotate_left
  · (intro Y hSw; (try dsimp only at hSw); obtain ⟨hS0, hS1, hS2, hS3, hS4⟩ := hSw; go_simp; try with_reducible rfl)
  try simp only [Act.put, List.getElem_toArray, List.getElem_cons_zero, List.getElem_cons_succ, List.setIfInBounds_toArray, List.set_cons_zero, List.set_cons_succ]
  refine wpAnyH_take (i := 8) (v := ?_) rfl (by kernel_rfl) (by kernel_rfl) (by kernel_rfl) (fun _ _ _ h => h) (Or.inl ⟨by rfl, ?_⟩) (by assumption) ?_
  rotate_left
  · (intro Y hSw; (try dsimp only at hSw); obtain ⟨hS0, hS1, hS2, hS3, hS4⟩ := hSw; go_simp; try with_reducible rfl)
  try simp only [Act.put, List.getElem_toArray, List.getElem_cons_zero, List.getElem_cons_succ, List.setIfInBounds_toArray, List.set_cons_zero, List.set_cons_succ]
  refine wpAnyH_take (i := 9) (v := ?_) rfl (by kernel_rfl) (by kernel_rfl) (by kernel_rfl) (fun _ _ _ h => h) (Or.inl ⟨by rfl, ?_⟩) (by assumption) ?_
  rotate_left
  · (intro Y hSw; (try dsimp only at hSw); obtain ⟨hS0, hS1, hS2, hS3, hS4⟩ := hSw; go_simp; try with_reducible rfl)
  try simp only [Act.put, List.getElem_toArray, List.getElem_cons_zero, List.getElem_cons_succ, List.setIfInBounds_toArray, List.set_cons_zero, List.set_cons_succ]
  refine wpAnyH_take (i := 10) (v := ?_) rfl (by kernel_rfl) (by kernel_rfl) (by kernel_rfl) (fun _ _ _ h => h) (Or.inl ⟨by rfl, ?_⟩) (by assumption) ?_
  rotate_left
  · (intro Y hSw; (try dsimp only at hSw); obtain ⟨hS0, hS1, hS2, hS3, hS4⟩ := hSw; go_simp; try with_reducible rfl)
  try simp only [Act.put, List.getElem_toArray, List.getElem_cons_zero, List.getElem_cons_succ, List.setIfInBounds_toArray, List.set_cons_zero, List.set_cons_succ]
  refine wpAnyH_take (i := 11) (v := ?_) rfl (by kernel_rfl) (by kernel_rfl) (by kernel_rfl) (fun _ _ _ h => h) (Or.inl ⟨by rfl, ?_⟩) (by assumption) ?_
  rotate_left
  · (intro Y hSw; (try dsimp only at hSw); obtain ⟨hS0, hS1, hS2, hS3, hS4⟩ := hSw; go_simp; try with_reducible rfl)
  try simp only [Act.put, List.getElem_toArray, List.getElem_cons_zero, List.getElem_cons_succ, List.setIfInBounds_toArray, List.set_cons_zero, List.set_cons_succ]
  refine wpAnyH_ready (rs := [1]) (by kernel_rfl) (by simp) ?_
  refine AllReadyH.cons rfl (fun K hK => ?_) AllReadyH.nil
  go_simp
  refine (is_calls _ _).mono ?_; rintro e w1 ⟨rfl, h1⟩
  have k1 := (Below.refl w0.heap.size w0).drew.trans (h1.mono (Nat.le_refl _))
  have z1 := k1.size
  go_wp2_with fail
  refine hK.out _ _ (PutN.of a0 a1 a2 a3 k1) (fun hHeld => ?_)
  clear hK K
  try simp only [Act.put, List.getElem_toArray, List.getElem_cons_zero, List.getElem_cons_succ, List.setIfInBounds_toArray, List.set_cons_zero, List.set_cons_succ]
  refine wpAnyH_ready (rs := [3]) (by kernel_rfl) (by simp) ?_
  refine AllReadyH.cons rfl (fun K hK => ?_) AllReadyH.nil
  go_simp
  refine (in_calls t 4 2 _).mono ?_; rintro e w2 ⟨rfl, _, _, h2⟩
  have k2 := k1.trans (h2.mono k1.size)
  go_wp2_with fail
  refine hK.out _ _ (PutN.of a0 a1 a2 a3 k2) (fun hHeld => ?_)
  clear hK K
  try simp only [Act.put, List.getElem_toArray, List.getElem_cons_zero, List.getElem_cons_succ, List.setIfInBounds_toArray, List.set_cons_zero, List.set_cons_succ]
  refine wpAnyH_ready (rs := [5]) (by kernel_rfl) (by simp) ?_
  refine AllReadyH.cons rfl (fun K hK => ?_) AllReadyH.nil
  go_simp
  refine (in_calls c 8 2 _).mono ?_; rintro e w3 ⟨rfl, _, _, h3⟩
  have k3 := k2.trans (h3.mono k2.size)
  go_wp2_with fail
  refine hK.out _ _ (PutN.of a0 a1 a2 a3 k3) (fun hHeld => ?_)
  clear hK K
  try simp only [Act.put, List.getElem_toArray, List.getElem_cons_zero, List.getElem_cons_succ, List.setIfInBounds_toArray, List.set_cons_zero, List.set_cons_succ]
  refine wpAnyH_ready (rs := [7]) (by kernel_rfl) (by simp) ?_
  refine AllReadyH.cons rfl (fun K hK => ?_) AllReadyH.nil
  go_simp
  refine (in_calls x 256 4 _).mono ?_; rintro e w4 ⟨rfl, _, _, h4⟩
  have k4 := k3.trans (h4.mono k3.size)
  have z4 := k4.size
  go_wp2_with fail
  refine hK.out _ _ (PutN.of a0 a1 a2 a3 k4) (fun hHeld => ?_)
  clear hK K
  try simp only [Act.put, List.getElem_toArray, List.getElem_cons_zero, List.getElem_cons_succ, List.setIfInBounds_toArray, List.set_cons_zero, List.set_cons_succ]
  refine wpAnyH_ready (rs := [12]) (by kernel_rfl) (by simp) ?_
  refine AllReadyH.cons rfl (fun K hK => ?_) AllReadyH.nil
  go_simp
  have jx : Below w4.heap.size w4 (w4.alloc (.cells (askList (putN p w1.heap.size w2.heap.size w3.heap.size w.heap.size (w.heap.size + 1) (w.heap.size + 1 + 1) (w.heap.size + 1 + 1 + 1))).toArray 66)) := (Below.refl _ w4).alloc (Nat.le_refl _) _
  have k5 := k4.trans (jx.mono z4)
  have hrow : AskRow (w4.alloc (.cells (askList (putN p w1.heap.size w2.heap.size w3.heap.size w.heap.size (w.heap.size + 1) (w.heap.size + 1 + 1) (w.heap.size + 1 + 1 + 1))).toArray 66)) w4.heap.size (putN p w1.heap.size w2.heap.size w3.heap.size w.heap.size (w.heap.size + 1) (w.heap.size + 1 + 1) (w.heap.size + 1 + 1 + 1)) := askRow_of (Blk.new w4 _ _)
  refine hK.out _ _ (PutN.of a0 a1 a2 a3 k5) (fun hHeld => ?_)
  clear hK K
  try simp only [Act.put, List.getElem_toArray, List.getElem_cons_zero, List.getElem_cons_succ, List.setIfInBounds_toArray, List.set_cons_zero, List.set_cons_succ]
  change wpAnyH _ _ _ _ _ _ _ _ (w4.alloc (.cells (askList (putN p w1.heap.size w2.heap.size w3.heap.size w.heap.size (w.heap.size + 1) (w.heap.size + 1 + 1) (w.heap.size + 1 + 1 + 1))).toArray 66))
  generalize (w4.alloc (.cells (askList (putN p w1.heap.size w2.heap.size w3.heap.size w.heap.size (w.heap.size + 1) (w.heap.size + 1 + 1) (w.heap.size + 1 + 1 + 1))).toArray 66)) = w5 at k5 hrow hHeld jx ⊢
  have hans := no_answers (h0.step k5) (putN p w1.heap.size w2.heap.size w3.heap.size w.heap.size (w.heap.size + 1) (w.heap.size + 1 + 1) (w.heap.size + 1 + 1 + 1)).tail (by
    intro a ha; simp [putN] at ha
    rcases ha with rfl | rfl | rfl | rfl | rfl
    · exact .inl rfl
    · exact .inl rfl
    · exact .inl rfl
    · exact .inr (.inl rfl)
    · exact .inr (.inr rfl))
  refine wpAnyH_ready (rs := [13]) (by kernel_rfl) (by simp) ?_
  refine AllReadyH.cons rfl (fun K hK => ?_) AllReadyH.nil
  go_simp
  refine (asked_ok w5 w4.heap.size 6 6 (putN p w1.heap.size w2.heap.size w3.heap.size w.heap.size (w.heap.size + 1) (w.heap.size + 1 + 1) (w.heap.size + 1 + 1 + 1)) rfl (by simp [putN]) (Lib.hid hrow) (Lib.hid hans)).mono ?_; rintro e w6 ⟨rfl, h6⟩
  rw [show firstErr (putN p w1.heap.size w2.heap.size w3.heap.size w.heap.size (w.heap.size + 1) (w.heap.size + 1 + 1) (w.heap.size + 1 + 1 + 1)) = 1 by simp [firstErr, putN]]
  have k6 := k5.trans (h6.mono k5.size)
  go_wp2_with fail
  refine hK.out _ _ (PutN.of a0 a1 a2 a3 k6) (fun hHeld => ?_)
  clear hK K
  try simp only [Act.put, List.getElem_toArray, List.getElem_cons_zero, List.getElem_cons_succ, List.setIfInBounds_toArray, List.set_cons_zero, List.set_cons_succ]
  refine wpAnyH_take (i := 14) (v := ?_) rfl (by kernel_rfl) (by kernel_rfl) (by kernel_rfl) (fun _ _ _ h => h) (Or.inl ⟨by rfl, ?_⟩) (by assumption) ?_
  rotate_left
  · (intro Y hSw; (try dsimp only at hSw); obtain ⟨hS0, hS1, hS2, hS3, hS4⟩ := hSw; go_simp; try with_reducible rfl)
  try simp only [Act.put, List.getElem_toArray, List.getElem_cons_zero, List.getElem_cons_succ, List.setIfInBounds_toArray, List.set_cons_zero, List.set_cons_succ]
  refine wpAnyH_done (by kernel_rfl) ?_ _
  go_wp2_with fail
  go_ret
  exact ⟨rfl, hb0.trans (k6.mono z0)⟩
end Go.Proofs.Ytkilmppmghkigaa
