/-
  Package page: its functions of no table. No condition.
-/
import Derived.Test.YtchepkihlnpfeaaPgH
namespace Go.Proofs.Ytchepkihlnpfeaa
open Go.RowKit
attribute [local go_sem] Oper.semAt_some
set_option maxHeartbeats 4000000
set_option maxRecDepth 4000

def askFns : List Nat := [39, 50, 51, 58, 33, 35, 37, 48, 49]
theorem askFns_enter (f : Nat) (h : f ∈ askFns) (args : Array Value) (W : World) : (callFunc f args).run Try.prog W = .ok (.enter f args) W := by
  simp only [askFns, List.mem_cons, List.not_mem_nil, or_false] at h
  rcases h with rfl | rfl | rfl | rfl | rfl | rfl | rfl | rfl | rfl
  · exact enters_of Try.func39 (by kernel_rfl) rfl args W
  · exact enters_of Try.func50 (by kernel_rfl) rfl args W
  · exact enters_of Try.func51 (by kernel_rfl) rfl args W
  · exact enters_of Try.func58 (by kernel_rfl) rfl args W
  · exact enters_of Try.func33 (by kernel_rfl) rfl args W
  · exact enters_of Try.func35 (by kernel_rfl) rfl args W
  · exact enters_of Try.func37 (by kernel_rfl) rfl args W
  · exact enters_of Try.func48 (by kernel_rfl) rfl args W
  · exact enters_of Try.func49 (by kernel_rfl) rfl args W
def nilAsk (p : Option Addr) : Ask := ⟨39, #[.pointer p], #[], 1, true⟩
theorem nil_answers {W : World} {p : Option Addr} (h : NoTb W p) (l : List Ask) (hl : ∀ a ∈ l, a.fn ∈ askFns) : Answers W (nilAsk p :: l) := by
  constructor
  · intro i hi args W'
    refine askFns_enter _ ?_ args W'
    rcases List.mem_cons.1 (List.getElem_mem hi) with e | e
    · rw [e]; simp [nilAsk, askFns]
    · exact hl _ e
  · intro i hi X hel k
    cases i with
    | zero => exact none_no (h.step k)
    | succ i => exact absurd (hel 0 (by simp) (by omega)) (by simp [nilAsk])
theorem nil_err (p : Option Addr) (l : List Ask) : firstErr (nilAsk p :: l) = 1 := by simp [firstErr, nilAsk]
theorem Len_none {w : World} {p : Option Addr} (h : NoTb w p) : Calls Try.prog 25 #[.pointer p] w fun e w' => e = .returned (.int .i64 0) ∧ Below w.heap.size w w' := by
  go_enter Try.func25, Try.ntmps25
  go_wp2_with fail
  refine (none_no h).mono ?_; rintro e w1 ⟨rfl, h1⟩
  go_wp2_with fail
  go_ret
  exact ⟨rfl, h1⟩
theorem Next_none {w : World} {p : Option Addr} (h : NoTb w p) (f many : Int) : Calls Try.prog 11 #[.pointer p, .int .i64 f, .int .i64 many] w fun e w' => e = .returned (.tuple #[.int .i64 0, .bool false]) ∧ Below w.heap.size w w' := by
  obtain ⟨w0, hw0⟩ : ∃ w0, w.alloc (.cells #[.int .i64 many] 3) = w0 := ⟨_, rfl⟩
  have k0 : Below w.heap.size w w0 := by rw [← hw0]; exact (Below.refl _ w).alloc (Nat.le_refl _) _
  have h0 := h.step k0
  refine calls_of_wp_marks Try.func11 rfl ?_; simp only [Try.ntmps11, List.size_toArray, List.length_cons, List.length_nil, Nat.reduceAdd, Nat.reduceSub, Array.replicate_succ, Array.replicate_zero, List.push_toArray, List.append_toArray, List.nil_append, List.cons_append]
  go_wp2_with fail
  clear hw0
  refine wp_scope_straight ?_
  go_wp2_with fail
  refine (none_no h0).mono ?_; rintro e w1 ⟨rfl, k1⟩
  go_wp2_with fail
  exact postM_ret0 (results_tmp2 rfl _ _ _) ⟨rfl, k0.trans (k1.mono k0.size)⟩
theorem Get_none {w : World} {p : Option Addr} (h : NoTb w p) (n : Int) : Calls Try.prog 27 #[.pointer p, .int .i64 n] w fun e w' => e = .returned (.tuple #[encE ⟨0, 0, 0⟩, .bool false]) ∧ Below w.heap.size w w' := by
  obtain ⟨w0, hw0⟩ : ∃ w0, w.alloc (.cells #[.int .i64 0, .int .i64 0, .int .i64 0] 31) = w0 := ⟨_, rfl⟩
  have hR : Blk w0 w.heap.size #[.int .i64 0, .int .i64 0, .int .i64 0] 31 := by rw [← hw0]; exact Blk.new w _ _
  have k0 : Below w.heap.size w w0 := by rw [← hw0]; exact (Below.refl _ w).alloc (Nat.le_refl _) _
  have h0 := h.step k0
  have z0 := k0.size
  go_enter Try.func27, Try.ntmps27
  go_wp2_with fail
  clear hw0
  refine (none_no h0).mono ?_; rintro e w1 ⟨rfl, h1⟩
  have hR1 := hR.below h1 hR.lt
  have y0 := hR1.cell 0 rfl
  have y1 := hR1.cell 1 rfl
  have y2 := hR1.cell 2 rfl
  have g0 := hR1.frozen 0
  have g1 := hR1.frozen 1
  have g2 := hR1.frozen 2
  have kk := k0.trans (h1.mono z0)
  go_wp2_with fail
  exact ret_e2 rfl w.heap.size rfl (hR1.set3 _ _ _) rfl rfl ⟨rfl, ((kk.setCell (p := ⟨w.heap.size, 0, none⟩) (Nat.le_refl _) _).setCell (p := ⟨w.heap.size, 1, none⟩) (Nat.le_refl _) _).setCell (p := ⟨w.heap.size, 2, none⟩) (Nat.le_refl _) _⟩
theorem Unmap_none {w : World} {q : Option Addr} (h : NoTb w q) (p : Int) :
    Calls Try.prog 21 #[.pointer q, .int .i64 p] w fun e w' => e = .returned (.tuple #[encE ⟨0, 0, 0⟩, .int .i64 1]) ∧ Below w.heap.size w w' := by
  obtain ⟨w0, hw0⟩ : ∃ w0, w.alloc (.cells #[.int .i64 0, .int .i64 0, .int .i64 0] 31) = w0 := ⟨_, rfl⟩
  have hR : Blk w0 w.heap.size #[.int .i64 0, .int .i64 0, .int .i64 0] 31 := by rw [← hw0]; exact Blk.new w _ _
  have k0 : Below w.heap.size w w0 := by rw [← hw0]; exact (Below.refl _ w).alloc (Nat.le_refl _) _
  have h0 := h.step k0
  have z0 := k0.size
  go_enter Try.func21, Try.ntmps21
  go_wp2_with fail
  clear hw0
  refine (is_calls _ _).mono ?_; rintro e w1 ⟨rfl, h1⟩
  go_wp2_with fail
  refine (in_calls _ _).mono ?_; rintro e w2 ⟨rfl, hI, h2⟩
  go_wp2_with fail
  refine (there_calls _ _ _).mono ?_; rintro e w3 ⟨rfl, hT, hP, h3⟩
  have k3 := h1.trans ((h2.mono h1.size).trans (h3.mono (Nat.le_trans h1.size h2.size)))
  have z3 := k3.size
  clear h1 h2 h3 hI hT hP
  go_wp2_with fail
  obtain ⟨tl, htl⟩ : ∃ tl : List Ask, tl = [⟨51, #[], #[.pointer (some ⟨w1.heap.size, 0, none⟩)], 4, false⟩, ⟨58, #[], #[.pointer (some ⟨w2.heap.size, 0, none⟩), .pointer (some ⟨w2.heap.size + 1, 0, none⟩)], 5, false⟩] := ⟨_, rfl⟩
  obtain ⟨w4, hw4⟩ : ∃ w4, w3.alloc (.cells (askList (nilAsk q :: tl)).toArray 80) = w4 := ⟨_, rfl⟩
  have k4 : Below w0.heap.size w0 w4 := by rw [← hw4]; exact k3.alloc z3 _
  have hrow : AskRow w4 w3.heap.size (nilAsk q :: tl) := by rw [← hw4]; exact askRow_of (Blk.new w3 _ _)
  have hans : Answers w4 (nilAsk q :: tl) := nil_answers (h0.step k4) tl (by rw [htl]; simp [askFns])
  have e4 : w3.alloc (.cells #[.func (.func 39) #[.pointer q] #[], .int .i64 1, .func (.func 51) #[] #[.pointer (some ⟨w1.heap.size, 0, none⟩)], .int .i64 4, .func (.func 58) #[] #[.pointer (some ⟨w2.heap.size, 0, none⟩), .pointer (some ⟨w2.heap.size + 1, 0, none⟩)], .int .i64 5] 80) = w4 := by rw [← hw4, htl]; rfl
  rw [e4]
  clear e4 hw4
  refine (asked_ok w4 w3.heap.size 3 3 (nilAsk q :: tl) (by rw [htl]; rfl) (by rw [htl]; simp) (Lib.hid hrow) (Lib.hid hans)).mono ?_; rintro e w5 ⟨rfl, h5⟩
  rw [nil_err]
  have k5 := k4.trans (h5.mono k4.size)
  have hR5 := hR.below k5 hR.lt
  have kk := k0.trans (k5.mono z0)
  clear hrow hans k4 h5 k3 z3 htl
  have r0 : w5.cell? ⟨w.heap.size, 0, none⟩ = some (.int .i64 0) := hR5.cell 0 rfl
  have r1 : w5.cell? ⟨w.heap.size, 1, none⟩ = some (.int .i64 0) := hR5.cell 1 rfl
  have r2 : w5.cell? ⟨w.heap.size, 2, none⟩ = some (.int .i64 0) := hR5.cell 2 rfl
  have f0 := hR5.frozen 0
  have f1 := hR5.frozen 1
  have f2 := hR5.frozen 2
  go_wp2_with fail
  exact ret_e2 rfl w.heap.size rfl (hR5.set3 _ _ _) rfl rfl ⟨rfl, ((kk.setCell (p := ⟨w.heap.size, 0, none⟩) (Nat.le_refl _) _).setCell (p := ⟨w.heap.size, 1, none⟩) (Nat.le_refl _) _).setCell (p := ⟨w.heap.size, 2, none⟩) (Nat.le_refl _) _⟩
theorem Protect_none {w : World} {q : Option Addr} (h : NoTb w q) (p n : Int) :
    Calls Try.prog 22 #[.pointer q, .int .i64 p, .int .i64 n] w fun e w' => e = .returned (.tuple #[.int .i64 0, .int .i64 1]) ∧ Below w.heap.size w w' := by
  go_enter Try.func22, Try.ntmps22
  go_wp2_with fail
  refine (is_calls _ _).mono ?_; rintro e w1 ⟨rfl, h1⟩
  go_wp2_with fail
  refine (may_calls _ _).mono ?_; rintro e wm ⟨rfl, hM, hm⟩
  go_wp2_with fail
  refine (in_calls _ _).mono ?_; rintro e w2 ⟨rfl, hI, h2⟩
  go_wp2_with fail
  refine (there_calls _ _ _).mono ?_; rintro e w3 ⟨rfl, hT, hP, h3⟩
  have km := h1.trans (hm.mono h1.size)
  have k2 := km.trans (h2.mono km.size)
  have k3 := k2.trans (h3.mono k2.size)
  have z3 := k3.size
  clear h1 h2 h3 hI hM hT hP hm km k2
  go_wp2_with fail
  obtain ⟨tl, htl⟩ : ∃ tl : List Ask, tl = [⟨50, #[], #[.pointer (some ⟨w1.heap.size, 0, none⟩)], 2, false⟩, ⟨51, #[], #[.pointer (some ⟨wm.heap.size, 0, none⟩)], 4, false⟩, ⟨58, #[], #[.pointer (some ⟨w2.heap.size, 0, none⟩), .pointer (some ⟨w2.heap.size + 1, 0, none⟩)], 5, false⟩] := ⟨_, rfl⟩
  obtain ⟨w4, hw4⟩ : ∃ w4, w3.alloc (.cells (askList (nilAsk q :: tl)).toArray 80) = w4 := ⟨_, rfl⟩
  have k4 : Below w.heap.size w w4 := by rw [← hw4]; exact k3.alloc z3 _
  have hrow : AskRow w4 w3.heap.size (nilAsk q :: tl) := by rw [← hw4]; exact askRow_of (Blk.new w3 _ _)
  have hans : Answers w4 (nilAsk q :: tl) := nil_answers (h.step k4) tl (by rw [htl]; simp [askFns])
  have e4 : w3.alloc (.cells #[.func (.func 39) #[.pointer q] #[], .int .i64 1, .func (.func 50) #[] #[.pointer (some ⟨w1.heap.size, 0, none⟩)], .int .i64 2, .func (.func 51) #[] #[.pointer (some ⟨wm.heap.size, 0, none⟩)], .int .i64 4, .func (.func 58) #[] #[.pointer (some ⟨w2.heap.size, 0, none⟩), .pointer (some ⟨w2.heap.size + 1, 0, none⟩)], .int .i64 5] 80) = w4 := by rw [← hw4, htl]; rfl
  rw [e4]
  clear e4 hw4
  refine (asked_ok w4 w3.heap.size 4 4 (nilAsk q :: tl) (by rw [htl]; rfl) (by rw [htl]; simp) (Lib.hid hrow) (Lib.hid hans)).mono ?_; rintro e w5 ⟨rfl, h5⟩
  rw [nil_err]
  have k5 := k4.trans (h5.mono k4.size)
  clear hrow hans k4 h5 k3 z3 htl
  go_wp2_with fail
  go_ret2
  exact ⟨rfl, k5⟩
theorem Free_none {w : World} {q : Option Addr} (h : NoTb w q) (f n : Int) :
    Calls Try.prog 26 #[.pointer q, .int .i64 f, .int .i64 n] w fun e w' => e = .returned (.tuple #[.bool false, .int .i64 1]) ∧ Below w.heap.size w w' := by
  obtain ⟨w0, hw0⟩ : ∃ w0, (w.alloc (.cells #[.int .i64 f] 3)).alloc (.cells #[.int .i64 n] 3) = w0 := ⟨_, rfl⟩
  have hF : Blk w0 w.heap.size #[.int .i64 f] 3 := by rw [← hw0]; exact (Blk.new w _ _).alloc _
  have hM : Blk w0 (w.heap.size + 1) #[.int .i64 n] 3 := by rw [← hw0]; exact Blk.newAt _ _ _ (by simp)
  have k0 : Below w.heap.size w w0 := by rw [← hw0]; exact ((Below.refl _ w).alloc (Nat.le_refl _) _).alloc (by simp) _
  have h0 := h.step k0
  have z0 := k0.size
  have hS : ∀ Y, Below w0.heap.size w0 Y → FreS w.heap.size (w.heap.size + 1) f n Y := fun Y k => ⟨(hF.below k hF.lt).cell 0 rfl, (hM.below k hM.lt).cell 0 rfl⟩
  have HS := Lib.hid hS
  clear hS
  go_enter Try.func26, Try.ntmps26
  go_wp2_with fail
  clear hw0
  refine wp_onlyN ?_
  refine wp_region_held_drew (S := FreS w.heap.size (w.heap.size + 1) f n) (by kernel_rfl) (HS.out _ (Below.refl _ w0).drew) (fun hHeld => ?_)
  refine wpAnyH_take (i := 0) (v := ?_) rfl (by kernel_rfl) (by kernel_rfl) (by kernel_rfl) (fun _ _ _ h => h) (Or.inl ⟨by rfl, ?_⟩) (by assumption) ?_
  rotate_left
  · (intro Y hSw; (try dsimp only at hSw); obtain ⟨hS0, hS1⟩ := hSw; go_simp; try with_reducible rfl)
  try simp only [Act.put, List.getElem_toArray, List.getElem_cons_zero, List.getElem_cons_succ, List.setIfInBounds_toArray, List.set_cons_zero, List.set_cons_succ]
  refine wpAnyH_take (i := 2) (v := ?_) rfl (by kernel_rfl) (by kernel_rfl) (by kernel_rfl) (fun _ _ _ h => h) (Or.inl ⟨by rfl, ?_⟩) (by assumption) ?_
  rotate_left
  · (intro Y hSw; (try dsimp only at hSw); obtain ⟨hS0, hS1⟩ := hSw; go_simp; try with_reducible rfl)
  try simp only [Act.put, List.getElem_toArray, List.getElem_cons_zero, List.getElem_cons_succ, List.setIfInBounds_toArray, List.set_cons_zero, List.set_cons_succ]
  refine wpAnyH_take (i := 3) (v := ?_) rfl (by kernel_rfl) (by kernel_rfl) (by kernel_rfl) (fun _ _ _ h => h) (Or.inl ⟨by rfl, ?_⟩) (by assumption) ?_
  rotate_left
  · (intro Y hSw; (try dsimp only at hSw); obtain ⟨hS0, hS1⟩ := hSw; go_simp; try with_reducible rfl)
  try simp only [Act.put, List.getElem_toArray, List.getElem_cons_zero, List.getElem_cons_succ, List.setIfInBounds_toArray, List.set_cons_zero, List.set_cons_succ]
  refine wpAnyH_take (i := 4) (v := ?_) rfl (by kernel_rfl) (by kernel_rfl) (by kernel_rfl) (fun _ _ _ h => h) (Or.inl ⟨by rfl, ?_⟩) (by assumption) ?_
  rotate_left
  · (intro Y hSw; (try dsimp only at hSw); obtain ⟨hS0, hS1⟩ := hSw; go_simp; try with_reducible rfl)
  try simp only [Act.put, List.getElem_toArray, List.getElem_cons_zero, List.getElem_cons_succ, List.setIfInBounds_toArray, List.set_cons_zero, List.set_cons_succ]
  refine wpAnyH_take (i := 6) (v := ?_) rfl (by kernel_rfl) (by kernel_rfl) (by kernel_rfl) (fun _ _ _ h => h) (Or.inl ⟨by rfl, ?_⟩) (by assumption) ?_
  rotate_left
  · (intro Y hSw; (try dsimp only at hSw); obtain ⟨hS0, hS1⟩ := hSw; go_simp; try with_reducible rfl)
  try simp only [Act.put, List.getElem_toArray, List.getElem_cons_zero, List.getElem_cons_succ, List.setIfInBounds_toArray, List.set_cons_zero, List.set_cons_succ]
  refine wpAnyH_take (i := 7) (v := ?_) rfl (by kernel_rfl) (by kernel_rfl) (by kernel_rfl) (fun _ _ _ h => h) (Or.inl ⟨by rfl, ?_⟩) (by assumption) ?_
  rotate_left
  · (intro Y hSw; (try dsimp only at hSw); obtain ⟨hS0, hS1⟩ := hSw; go_simp; try with_reducible rfl)
  try simp only [Act.put, List.getElem_toArray, List.getElem_cons_zero, List.getElem_cons_succ, List.setIfInBounds_toArray, List.set_cons_zero, List.set_cons_succ]
  refine wpAnyH_ready (rs := [1]) (by kernel_rfl) (by simp) ?_
  refine AllReadyH.cons rfl (fun K hK => ?_) AllReadyH.nil
  go_simp
  refine (is_calls _ _).mono ?_; rintro e w1 ⟨rfl, h1⟩
  have k1 := (Below.refl w0.heap.size w0).drew.trans (h1.mono (Nat.le_refl _))
  go_simp
  refine hK.out _ _ (HS.out _ k1) (fun hHeld => ?_)
  clear hK K
  try simp only [Act.put, List.getElem_toArray, List.getElem_cons_zero, List.getElem_cons_succ, List.setIfInBounds_toArray, List.set_cons_zero, List.set_cons_succ]
  refine wpAnyH_ready (rs := [5]) (by kernel_rfl) (by simp) ?_
  refine AllReadyH.cons rfl (fun K hK => ?_) AllReadyH.nil
  go_simp
  refine (in_calls _ _).mono ?_; rintro e w3 ⟨rfl, hI, h3⟩
  have k3 := k1.trans (h3.mono k1.size)
  have z3 := k3.size
  go_simp
  refine hK.out _ _ (HS.out _ k3) (fun hHeld => ?_)
  clear hK K
  try simp only [Act.put, List.getElem_toArray, List.getElem_cons_zero, List.getElem_cons_succ, List.setIfInBounds_toArray, List.set_cons_zero, List.set_cons_succ]
  refine wpAnyH_ready (rs := [8]) (by kernel_rfl) (by simp) ?_
  refine AllReadyH.cons rfl (fun K hK => ?_) AllReadyH.nil
  go_simp
  obtain ⟨tl, htl⟩ : ∃ tl : List Ask, tl = [⟨48, #[], #[.pointer (some ⟨w.heap.size + 1, 0, none⟩)], 2, false⟩, ⟨51, #[], #[.pointer (some ⟨w1.heap.size, 0, none⟩)], 4, false⟩, ⟨49, #[], #[.pointer (some ⟨w.heap.size + 1, 0, none⟩), .pointer (some ⟨w.heap.size, 0, none⟩)], 4, false⟩] := ⟨_, rfl⟩
  obtain ⟨w4, hw4⟩ : ∃ w4, w3.alloc (.cells (askList (nilAsk q :: tl)).toArray 80) = w4 := ⟨_, rfl⟩
  have k4 : Below w0.heap.size w0 w4 := by rw [← hw4]; exact k3.alloc z3 _
  have hrow : AskRow w4 w3.heap.size (nilAsk q :: tl) := by rw [← hw4]; exact askRow_of (Blk.new w3 _ _)
  have hans : Answers w4 (nilAsk q :: tl) := nil_answers (h0.step k4) tl (by rw [htl]; simp [askFns])
  have e4 : w3.alloc (.cells #[.func (.func 39) #[.pointer q] #[], .int .i64 1, .func (.func 48) #[] #[.pointer (some ⟨w.heap.size + 1, 0, none⟩)], .int .i64 2, .func (.func 51) #[] #[.pointer (some ⟨w1.heap.size, 0, none⟩)], .int .i64 4, .func (.func 49) #[] #[.pointer (some ⟨w.heap.size + 1, 0, none⟩), .pointer (some ⟨w.heap.size, 0, none⟩)], .int .i64 4] 80) = w4 := by rw [← hw4, htl]; rfl
  rw [e4]
  refine hK.out _ _ (HS.out _ k4) (fun hHeld => ?_)
  clear hK K
  try simp only [Act.put, List.getElem_toArray, List.getElem_cons_zero, List.getElem_cons_succ, List.setIfInBounds_toArray, List.set_cons_zero, List.set_cons_succ]
  clear e4 hw4
  refine wpAnyH_ready (rs := [9]) (by kernel_rfl) (by simp) ?_
  refine AllReadyH.cons rfl (fun K hK => ?_) AllReadyH.nil
  go_simp
  refine (asked_ok w4 w3.heap.size 4 4 (nilAsk q :: tl) (by rw [htl]; rfl) (by rw [htl]; simp) (Lib.hid hrow) (Lib.hid hans)).mono ?_; rintro e w5 ⟨rfl, h5⟩
  rw [nil_err]
  have k5 := k4.trans (h5.mono k4.size)
  go_simp
  refine hK.out _ _ (HS.out _ k5) (fun hHeld => ?_)
  clear hK K
  try simp only [Act.put, List.getElem_toArray, List.getElem_cons_zero, List.getElem_cons_succ, List.setIfInBounds_toArray, List.set_cons_zero, List.set_cons_succ]
  refine wpAnyH_take (i := 10) (v := ?_) rfl (by kernel_rfl) (by kernel_rfl) (by kernel_rfl) (fun _ _ _ h => h) (Or.inl ⟨by rfl, ?_⟩) (by assumption) ?_
  rotate_left
  · (intro Y hSw; (try dsimp only at hSw); obtain ⟨hS0, hS1⟩ := hSw; go_simp; try with_reducible rfl)
  try simp only [Act.put, List.getElem_toArray, List.getElem_cons_zero, List.getElem_cons_succ, List.setIfInBounds_toArray, List.set_cons_zero, List.set_cons_succ]
  refine wpAnyH_done (by kernel_rfl) ?_ _
  rw [onlyN_normal]
  clear hrow hans hI h5 k4 k3 k1 h1 h3 hHeld htl
  go_wp2_with fail
  go_ret2
  exact ⟨rfl, k0.trans (k5.mono z0)⟩
theorem Map_none {w : World} {q : Option Addr} (h : NoTb w q) (p : Int) (x : Ent) :
    Calls Try.prog 10 #[.pointer q, .int .i64 p, .agg #[.int .i64 x.o, .int .i64 x.m, .int .i64 x.f]] w fun e w' => e = .returned (.int .i64 1) ∧ Below w.heap.size w w' := by
  obtain ⟨w0, hw0⟩ : ∃ w0, ((w.alloc (.cells #[.pointer q] 24)).alloc (.cells #[.int .i64 p] 3)).alloc (.cells #[.int .i64 x.o, .int .i64 x.m, .int .i64 x.f] 31) = w0 := ⟨_, rfl⟩
  have b1 : Blk w0 w.heap.size #[.pointer q] 24 := by rw [← hw0]; exact ((Blk.new w _ _).alloc _).alloc _
  have b2 : Blk w0 (w.heap.size + 1) #[.int .i64 p] 3 := by rw [← hw0]; exact (Blk.newAt _ _ _ (by simp)).alloc _
  have b3 : Blk w0 (w.heap.size + 1 + 1) #[.int .i64 x.o, .int .i64 x.m, .int .i64 x.f] 31 := by rw [← hw0]; exact Blk.newAt _ _ _ (by simp)
  have k0 : Below w.heap.size w w0 := by rw [← hw0]; exact (((Below.refl _ w).alloc (Nat.le_refl _) _).alloc (by simp) _).alloc (by simp; omega) _
  have h0 := h.step k0
  have z0 := k0.size
  have hS : ∀ Y, Below w0.heap.size w0 Y → (Y.cell? ⟨w.heap.size, 0, none⟩ = some (.pointer q) ∧ Y.cell? ⟨w.heap.size + 1, 0, none⟩ = some (.int .i64 p) ∧ Y.cell? ⟨w.heap.size + 1 + 1, 1, none⟩ = some (.int .i64 x.m)) := fun Y k => ⟨(b1.below k b1.lt).cell 0 rfl, (b2.below k b2.lt).cell 0 rfl, (b3.below k b3.lt).cell 1 rfl⟩
  have HS := Lib.hid hS
  clear hS
  go_enter Try.func10, Try.ntmps10
  go_wp2_with fail
  clear hw0
  refine wp_onlyN ?_
  refine wp_region_held_drew (S := fun Y => Y.cell? ⟨w.heap.size, 0, none⟩ = some (.pointer q) ∧ Y.cell? ⟨w.heap.size + 1, 0, none⟩ = some (.int .i64 p) ∧ Y.cell? ⟨w.heap.size + 1 + 1, 1, none⟩ = some (.int .i64 x.m)) (by kernel_rfl) (HS.out _ (Below.refl _ w0).drew) (fun hHeld => ?_)
  refine wpAnyH_take (i := 0) (v := ?_) rfl (by kernel_rfl) (by kernel_rfl) (by kernel_rfl) (fun _ _ _ h => h) (Or.inl ⟨by rfl, ?_⟩) (by assumption) ?_
  rotate_left
  · (intro Y hSw; (try dsimp only at hSw); obtain ⟨hS0, hS1, hS2⟩ := hSw; go_simp; try with_reducible rfl)
  try simp only [Act.put, List.getElem_toArray, List.getElem_cons_zero, List.getElem_cons_succ, List.setIfInBounds_toArray, List.set_cons_zero, List.set_cons_succ]
  refine wpAnyH_take (i := 2) (v := ?_) rfl (by kernel_rfl) (by kernel_rfl) (by kernel_rfl) (fun _ _ _ h => h) (Or.inl ⟨by rfl, ?_⟩) (by assumption) ?_
  rotate_left
  · (intro Y hSw; (try dsimp only at hSw); obtain ⟨hS0, hS1, hS2⟩ := hSw; go_simp; try with_reducible rfl)
  try simp only [Act.put, List.getElem_toArray, List.getElem_cons_zero, List.getElem_cons_succ, List.setIfInBounds_toArray, List.set_cons_zero, List.set_cons_succ]
  refine wpAnyH_take (i := 3) (v := ?_) rfl (by kernel_rfl) (by kernel_rfl) (by kernel_rfl) (fun _ _ _ h => h) (Or.inl ⟨by rfl, ?_⟩) (by assumption) ?_
  rotate_left
  · (intro Y hSw; (try dsimp only at hSw); obtain ⟨hS0, hS1, hS2⟩ := hSw; go_simp; try with_reducible rfl)
  try simp only [Act.put, List.getElem_toArray, List.getElem_cons_zero, List.getElem_cons_succ, List.setIfInBounds_toArray, List.set_cons_zero, List.set_cons_succ]
  refine wpAnyH_take (i := 5) (v := ?_) rfl (by kernel_rfl) (by kernel_rfl) (by kernel_rfl) (fun _ _ _ h => h) (Or.inl ⟨by rfl, ?_⟩) (by assumption) ?_
  rotate_left
  · (intro Y hSw; (try dsimp only at hSw); obtain ⟨hS0, hS1, hS2⟩ := hSw; go_simp; try with_reducible rfl)
  try simp only [Act.put, List.getElem_toArray, List.getElem_cons_zero, List.getElem_cons_succ, List.setIfInBounds_toArray, List.set_cons_zero, List.set_cons_succ]
  refine wpAnyH_take (i := 6) (v := ?_) rfl (by kernel_rfl) (by kernel_rfl) (by kernel_rfl) (fun _ _ _ h => h) (Or.inl ⟨by rfl, ?_⟩) (by assumption) ?_
  rotate_left
  · (intro Y hSw; (try dsimp only at hSw); obtain ⟨hS0, hS1, hS2⟩ := hSw; go_simp; try with_reducible rfl)
  try simp only [Act.put, List.getElem_toArray, List.getElem_cons_zero, List.getElem_cons_succ, List.setIfInBounds_toArray, List.set_cons_zero, List.set_cons_succ]
  refine wpAnyH_take (i := 7) (v := ?_) rfl (by kernel_rfl) (by kernel_rfl) (by kernel_rfl) (fun _ _ _ h => h) (Or.inl ⟨by rfl, ?_⟩) (by assumption) ?_
  rotate_left
  · (intro Y hSw; (try dsimp only at hSw); obtain ⟨hS0, hS1, hS2⟩ := hSw; go_simp; try with_reducible rfl)
  try simp only [Act.put, List.getElem_toArray, List.getElem_cons_zero, List.getElem_cons_succ, List.setIfInBounds_toArray, List.set_cons_zero, List.set_cons_succ]
  refine wpAnyH_take (i := 9) (v := ?_) rfl (by kernel_rfl) (by kernel_rfl) (by kernel_rfl) (fun _ _ _ h => h) (Or.inl ⟨by rfl, ?_⟩) (by assumption) ?_
  rotate_left
  · (intro Y hSw; (try dsimp only at hSw); obtain ⟨hS0, hS1, hS2⟩ := hSw; go_simp; try with_reducible rfl)
  try simp only [Act.put, List.getElem_toArray, List.getElem_cons_zero, List.getElem_cons_succ, List.setIfInBounds_toArray, List.set_cons_zero, List.set_cons_succ]
  refine wpAnyH_take (i := 10) (v := ?_) rfl (by kernel_rfl) (by kernel_rfl) (by kernel_rfl) (fun _ _ _ h => h) (Or.inl ⟨by rfl, ?_⟩) (by assumption) ?_
  rotate_left
  · (intro Y hSw; (try dsimp only at hSw); obtain ⟨hS0, hS1, hS2⟩ := hSw; go_simp; try with_reducible rfl)
  try simp only [Act.put, List.getElem_toArray, List.getElem_cons_zero, List.getElem_cons_succ, List.setIfInBounds_toArray, List.set_cons_zero, List.set_cons_succ]
  refine wpAnyH_take (i := 11) (v := ?_) rfl (by kernel_rfl) (by kernel_rfl) (by kernel_rfl) (fun _ _ _ h => h) (Or.inl ⟨by rfl, ?_⟩) (by assumption) ?_
  rotate_left
  · (intro Y hSw; (try dsimp only at hSw); obtain ⟨hS0, hS1, hS2⟩ := hSw; go_simp; try with_reducible rfl)
  try simp only [Act.put, List.getElem_toArray, List.getElem_cons_zero, List.getElem_cons_succ, List.setIfInBounds_toArray, List.set_cons_zero, List.set_cons_succ]
  refine wpAnyH_take (i := 12) (v := ?_) rfl (by kernel_rfl) (by kernel_rfl) (by kernel_rfl) (fun _ _ _ h => h) (Or.inl ⟨by rfl, ?_⟩) (by assumption) ?_
  rotate_left
  · (intro Y hSw; (try dsimp only at hSw); obtain ⟨hS0, hS1, hS2⟩ := hSw; go_simp; try with_reducible rfl)
  try simp only [Act.put, List.getElem_toArray, List.getElem_cons_zero, List.getElem_cons_succ, List.setIfInBounds_toArray, List.set_cons_zero, List.set_cons_succ]
  refine wpAnyH_ready (rs := [1]) (by kernel_rfl) (by simp) ?_
  refine AllReadyH.cons rfl (fun K hK => ?_) AllReadyH.nil
  go_simp
  refine (is_calls _ _).mono ?_; rintro e w1 ⟨rfl, h1⟩
  have k1 := (Below.refl w0.heap.size w0).drew.trans (h1.mono (Nat.le_refl _))
  go_simp
  refine hK.out _ _ (HS.out _ k1) (fun hHeld => ?_)
  clear hK K
  try simp only [Act.put, List.getElem_toArray, List.getElem_cons_zero, List.getElem_cons_succ, List.setIfInBounds_toArray, List.set_cons_zero, List.set_cons_succ]
  refine wpAnyH_ready (rs := [4]) (by kernel_rfl) (by simp) ?_
  refine AllReadyH.cons rfl (fun K hK => ?_) AllReadyH.nil
  go_simp
  refine (may_calls _ _).mono ?_; rintro e w2 ⟨rfl, hM, h2⟩
  have k2 := k1.trans (h2.mono k1.size)
  go_simp
  refine hK.out _ _ (HS.out _ k2) (fun hHeld => ?_)
  clear hK K
  try simp only [Act.put, List.getElem_toArray, List.getElem_cons_zero, List.getElem_cons_succ, List.setIfInBounds_toArray, List.set_cons_zero, List.set_cons_succ]
  refine wpAnyH_ready (rs := [8]) (by kernel_rfl) (by simp) ?_
  refine AllReadyH.cons rfl (fun K hK => ?_) AllReadyH.nil
  go_simp
  refine (in_calls _ _).mono ?_; rintro e w3 ⟨rfl, hI, h3⟩
  have k3 := k2.trans (h3.mono k2.size)
  have z3 := k3.size
  go_simp
  refine hK.out _ _ (HS.out _ k3) (fun hHeld => ?_)
  clear hK K
  try simp only [Act.put, List.getElem_toArray, List.getElem_cons_zero, List.getElem_cons_succ, List.setIfInBounds_toArray, List.set_cons_zero, List.set_cons_succ]
  refine wpAnyH_ready (rs := [13]) (by kernel_rfl) (by simp) ?_
  refine AllReadyH.cons rfl (fun K hK => ?_) AllReadyH.nil
  go_simp
  obtain ⟨tl, htl⟩ : ∃ tl : List Ask, tl = [⟨50, #[], #[.pointer (some ⟨w1.heap.size, 0, none⟩)], 2, false⟩, ⟨33, #[], #[.pointer (some ⟨w.heap.size + 1 + 1, 0, none⟩)], 2, false⟩,
    ⟨51, #[], #[.pointer (some ⟨w2.heap.size, 0, none⟩)], 4, false⟩, ⟨35, #[], #[.pointer (some ⟨w.heap.size, 0, none⟩), .pointer (some ⟨w.heap.size + 1, 0, none⟩)], 180, false⟩,
    ⟨37, #[], #[.pointer (some ⟨w.heap.size, 0, none⟩), .pointer (some ⟨w.heap.size + 1 + 1, 0, none⟩)], 181, false⟩] := ⟨_, rfl⟩
  obtain ⟨w4, hw4⟩ : ∃ w4, w3.alloc (.cells (askList (nilAsk q :: tl)).toArray 80) = w4 := ⟨_, rfl⟩
  have k4 : Below w0.heap.size w0 w4 := by rw [← hw4]; exact k3.alloc z3 _
  have hrow : AskRow w4 w3.heap.size (nilAsk q :: tl) := by rw [← hw4]; exact askRow_of (Blk.new w3 _ _)
  have hans : Answers w4 (nilAsk q :: tl) := nil_answers (h0.step k4) tl (by rw [htl]; simp [askFns])
  have e4 : w3.alloc (.cells #[.func (.func 39) #[.pointer q] #[], .int .i64 1, .func (.func 50) #[] #[.pointer (some ⟨w1.heap.size, 0, none⟩)], .int .i64 2, .func (.func 33) #[] #[.pointer (some ⟨w.heap.size + 1 + 1, 0, none⟩)], .int .i64 2, .func (.func 51) #[] #[.pointer (some ⟨w2.heap.size, 0, none⟩)], .int .i64 4, .func (.func 35) #[] #[.pointer (some ⟨w.heap.size, 0, none⟩), .pointer (some ⟨w.heap.size + 1, 0, none⟩)], .int .i64 180, .func (.func 37) #[] #[.pointer (some ⟨w.heap.size, 0, none⟩), .pointer (some ⟨w.heap.size + 1 + 1, 0, none⟩)], .int .i64 181] 80) = w4 := by rw [← hw4, htl]; rfl
  rw [e4]
  refine hK.out _ _ (HS.out _ k4) (fun hHeld => ?_)
  clear hK K
  try simp only [Act.put, List.getElem_toArray, List.getElem_cons_zero, List.getElem_cons_succ, List.setIfInBounds_toArray, List.set_cons_zero, List.set_cons_succ]
  clear e4 hw4
  refine wpAnyH_ready (rs := [14]) (by kernel_rfl) (by simp) ?_
  refine AllReadyH.cons rfl (fun K hK => ?_) AllReadyH.nil
  go_simp
  refine (asked_ok w4 w3.heap.size 6 6 (nilAsk q :: tl) (by rw [htl]; rfl) (by rw [htl]; simp) (Lib.hid hrow) (Lib.hid hans)).mono ?_; rintro e w5 ⟨rfl, h5⟩
  rw [nil_err]
  have k5 := k4.trans (h5.mono k4.size)
  go_simp
  refine hK.out _ _ (HS.out _ k5) (fun hHeld => ?_)
  clear hK K
  try simp only [Act.put, List.getElem_toArray, List.getElem_cons_zero, List.getElem_cons_succ, List.setIfInBounds_toArray, List.set_cons_zero, List.set_cons_succ]
  refine wpAnyH_take (i := 15) (v := ?_) rfl (by kernel_rfl) (by kernel_rfl) (by kernel_rfl) (fun _ _ _ h => h) (Or.inl ⟨by rfl, ?_⟩) (by assumption) ?_
  rotate_left
  · (intro Y hSw; (try dsimp only at hSw); obtain ⟨hS0, hS1, hS2⟩ := hSw; go_simp; try with_reducible rfl)
  try simp only [Act.put, List.getElem_toArray, List.getElem_cons_zero, List.getElem_cons_succ, List.setIfInBounds_toArray, List.set_cons_zero, List.set_cons_succ]
  refine wpAnyH_done (by kernel_rfl) ?_ _
  rw [onlyN_normal]
  clear hrow hans hI hM h5 k4 k3 k2 k1 h1 h2 h3 hHeld htl
  go_wp2_with fail
  go_ret
  exact ⟨rfl, k0.trans (k5.mono z0)⟩
end Go.Proofs.Ytchepkihlnpfeaa
