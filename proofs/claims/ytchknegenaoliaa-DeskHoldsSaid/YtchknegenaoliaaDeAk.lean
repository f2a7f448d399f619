/-
  Package desk: its functions of no desk. No condition.
-/
import Derived.Test.YtchknegenaoliaaDeAj
namespace Go.Proofs.Ytchknegenaoliaa
open Go.RowKit
attribute [local go_sem] Oper.semAt_some
set_option maxHeartbeats 2000000
set_option maxRecDepth 4000

def askFns : List Nat := [34, 45, 47, 48, 30]
theorem askFns_enter (f : Nat) (h : f ∈ askFns) (args : Array Value) (W : World) : (callFunc f args).run Try.prog W = .ok (.enter f args) W := by
  simp only [askFns, List.mem_cons, List.not_mem_nil, or_false] at h
  rcases h with rfl | rfl | rfl | rfl | rfl
  · exact live_enter args W
  · exact place_enter args W
  · exact within_enter args W
  · exact whose_enter args W
  · exact within_enter' args W
def nilAsk (p : Option Addr) : Ask := ⟨34, #[.pointer p], #[], 1, true⟩
theorem nil_answers {W : World} {p : Option Addr} (h : NoDk W p) (l : List Ask) (hl : ∀ a ∈ l, a.fn ∈ askFns) : Answers W (nilAsk p :: l) := by
  constructor
  · intro i hi args W'
    refine askFns_enter _ ?_ args W'
    rcases List.mem_cons.1 (List.getElem_mem hi) with e | e
    · rw [e]; simp [nilAsk, askFns]
    · exact hl _ e
  · intro i hi X hel k
    cases i with
    | zero => exact none_no (h.step k)
    | succ i => exact absurd (hel 0 (by simp) (by omega)) (by simp [nilAsk])
theorem nil_err (p : Option Addr) (l : List Ask) : firstErr (nilAsk p :: l) = 1 := by simp [firstErr, nilAsk]
/-- The questions' row is laid, and asked. -/
theorem nil_asked {w0 W : World} {p : Option Addr} (h : NoDk w0 p) (k : Below w0.heap.size w0 W) (l : List Ask) (hl : ∀ a ∈ l, a.fn ∈ askFns) (hn : l.length ≤ 900) (n : Nat) (hc : n = l.length + 1) :
    Calls Try.prog 26 #[.slice (some ⟨W.heap.size, 0, none⟩) n n] (W.alloc (.cells (askList (nilAsk p :: l)).toArray 76)) fun e w' => e = .returned (.int .i64 1) ∧ Below w0.heap.size w0 w' := by
  have k4 := k.alloc k.size (.cells (askList (nilAsk p :: l)).toArray 76)
  have hrow : AskRow (W.alloc (.cells (askList (nilAsk p :: l)).toArray 76)) W.heap.size (nilAsk p :: l) := askRow_of (Blk.new W _ _)
  subst hc
  refine (asked_ok _ W.heap.size (l.length + 1) (l.length + 1) (nilAsk p :: l) (by simp) (by simp; omega) (Lib.hid hrow) (Lib.hid (nil_answers (h.step k4) l hl))).mono ?_
  rintro e w' ⟨rfl, k5⟩
  rw [nil_err]
  exact ⟨rfl, k4.trans (k5.mono k4.size)⟩
theorem Check_none {w : World} {p : Option Addr} (hN : NoDk w p) (h : Hnd) :
    Calls Try.prog 13 #[.pointer p, .agg #[.int .i64 h.s, .int .i64 h.g]] w fun e w' => e = .returned (.int .i64 1) ∧ Below w.heap.size w w' := by
  obtain ⟨w0, hw0⟩ : ∃ w0, w.alloc (.cells #[.int .i64 h.s, .int .i64 h.g] 28) = w0 := ⟨_, rfl⟩
  have hH : Blk w0 w.heap.size #[.int .i64 h.s, .int .i64 h.g] 28 := by rw [← hw0]; exact Blk.new w _ _
  have k0 : Below w.heap.size w w0 := by rw [← hw0]; exact (Below.refl _ w).alloc (Nat.le_refl _) _
  have h0 := hN.step k0
  have z0 := k0.size
  have hS : ∀ Y, Below w0.heap.size w0 Y → ChS w.heap.size h Y := fun Y k => ⟨(hH.below k hH.lt).cell 0 rfl, (hH.below k hH.lt).cell 1 rfl⟩
  have HS := Lib.hid hS
  clear hS
  go_enter Try.func13, Try.ntmps13
  go_wp2_with fail
  clear hw0
  refine wp_onlyN ?_
  refine wp_region_held_drew (S := ChS w.heap.size h) (by kernel_rfl) (HS.out _ (Below.refl _ w0).drew) (fun hHeld => ?_)
  refine wpAnyH_take (i := 0) (v := ?_) rfl (by kernel_rfl) (by kernel_rfl) (by kernel_rfl) (fun _ _ _ h => h) (Or.inl ⟨by rfl, ?_⟩) (by assumption) ?_
  rotate_left
  · (intro Y hSw; (try dsimp only at hSw); obtain ⟨hS0, hS1⟩ := hSw; go_simp; try with_reducible rfl)
  try simp only [Act.put, List.getElem_toArray, List.getElem_cons_zero, List.getElem_cons_succ, List.setIfInBounds_toArray, List.set_cons_zero, List.set_cons_succ]
  refine wpAnyH_take (i := 2) (v := ?_) rfl (by kernel_rfl) (by kernel_rfl) (by kernel_rfl) (fun _ _ _ h => h) (Or.inl ⟨by rfl, ?_⟩) (by assumption) ?_
  rotate_left
  · (intro Y hSw; (try dsimp only at hSw); obtain ⟨hS0, hS1⟩ := hSw; go_simp; try with_reducible rfl)
  try simp only [Act.put, List.getElem_toArray, List.getElem_cons_zero, List.getElem_cons_succ, List.setIfInBounds_toArray, List.set_cons_zero, List.set_cons_succ]
  refine wpAnyH_take (i := 3) (v := ?_) rfl (by kernel_rfl) (by kernel_rfl) (by kernel_rfl) (fun _ _ _ h => h) (Or.inl ⟨by rfl, ?_⟩) (by assumption) ?_
  rotate_left
  · (intro Y hSw; (try dsimp only at hSw); obtain ⟨hS0, hS1⟩ := hSw; go_simp; try with_reducible rfl)
  try simp only [Act.put, List.getElem_toArray, List.getElem_cons_zero, List.getElem_cons_succ, List.setIfInBounds_toArray, List.set_cons_zero, List.set_cons_succ]
  refine wpAnyH_take (i := 4) (v := ?_) rfl (by kernel_rfl) (by kernel_rfl) (by kernel_rfl) (fun _ _ _ h => h) (Or.inl ⟨by rfl, ?_⟩) (by assumption) ?_
  rotate_left
  · (intro Y hSw; (try dsimp only at hSw); obtain ⟨hS0, hS1⟩ := hSw; go_simp; try with_reducible rfl)
  try simp only [Act.put, List.getElem_toArray, List.getElem_cons_zero, List.getElem_cons_succ, List.setIfInBounds_toArray, List.set_cons_zero, List.set_cons_succ]
  refine wpAnyH_take (i := 6) (v := ?_) rfl (by kernel_rfl) (by kernel_rfl) (by kernel_rfl) (fun _ _ _ h => h) (Or.inl ⟨by rfl, ?_⟩) (by assumption) ?_
  rotate_left
  · (intro Y hSw; (try dsimp only at hSw); obtain ⟨hS0, hS1⟩ := hSw; go_simp; try with_reducible rfl)
  try simp only [Act.put, List.getElem_toArray, List.getElem_cons_zero, List.getElem_cons_succ, List.setIfInBounds_toArray, List.set_cons_zero, List.set_cons_succ]
  refine wpAnyH_take (i := 7) (v := ?_) rfl (by kernel_rfl) (by kernel_rfl) (by kernel_rfl) (fun _ _ _ h => h) (Or.inl ⟨by rfl, ?_⟩) (by assumption) ?_
  rotate_left
  · (intro Y hSw; (try dsimp only at hSw); obtain ⟨hS0, hS1⟩ := hSw; go_simp; try with_reducible rfl)
  try simp only [Act.put, List.getElem_toArray, List.getElem_cons_zero, List.getElem_cons_succ, List.setIfInBounds_toArray, List.set_cons_zero, List.set_cons_succ]
  refine wpAnyH_ready (rs := [1]) (by kernel_rfl) (by simp) ?_
  refine AllReadyH.cons rfl (fun K hK => ?_) AllReadyH.nil
  go_simp
  refine (is_calls _ _).mono ?_; rintro e w1 ⟨rfl, h1⟩
  have k1 := (Below.refl w0.heap.size w0).drew.trans (h1.mono (Nat.le_refl _))
  go_simp
  refine hK.out _ _ (HS.out _ k1) (fun hHeld => ?_)
  clear hK K
  try simp only [Act.put, List.getElem_toArray, List.getElem_cons_zero, List.getElem_cons_succ, List.setIfInBounds_toArray, List.set_cons_zero, List.set_cons_succ]
  refine wpAnyH_ready (rs := [5]) (by kernel_rfl) (by simp) ?_
  refine AllReadyH.cons rfl (fun K hK => ?_) AllReadyH.nil
  go_simp
  refine (place_calls p h.s w1).mono ?_; rintro e w2 ⟨rfl, p1, p2, h2⟩
  have k2 := k1.trans (h2.mono k1.size)
  go_simp
  refine hK.out _ _ (HS.out _ k2) (fun hHeld => ?_)
  clear hK K
  try simp only [Act.put, List.getElem_toArray, List.getElem_cons_zero, List.getElem_cons_succ, List.setIfInBounds_toArray, List.set_cons_zero, List.set_cons_succ]
  refine wpAnyH_ready (rs := [8]) (by kernel_rfl) (by simp) ?_
  refine AllReadyH.cons rfl (fun K hK => ?_) AllReadyH.nil
  go_simp
  refine (whose_calls p h w2).mono ?_; rintro e w3 ⟨rfl, q1, q2, h3⟩
  have k3 := k2.trans (h3.mono k2.size)
  have z3 := k3.size
  go_simp
  refine hK.out _ _ (HS.out _ k3) (fun hHeld => ?_)
  clear hK K
  try simp only [Act.put, List.getElem_toArray, List.getElem_cons_zero, List.getElem_cons_succ, List.setIfInBounds_toArray, List.set_cons_zero, List.set_cons_succ]
  clear p1 p2 q1 q2 h1 h2 h3 k1 k2
  obtain ⟨tl, htl⟩ : ∃ tl : List Ask, tl = [⟨45, #[], #[.pointer (some ⟨w1.heap.size, 0, none⟩), .pointer (some ⟨w1.heap.size + 1, 0, none⟩)], 2, false⟩, ⟨48, #[], #[.pointer (some ⟨w2.heap.size, 0, none⟩), .pointer (some ⟨w2.heap.size + 1, 0, none⟩)], 311, false⟩] := ⟨_, rfl⟩
  have hcall := nil_asked h0 k3 tl (by rw [htl]; simp [askFns]) (by rw [htl]; simp) 3 (by rw [htl]; rfl)
  have k4 := k3.alloc z3 (.cells (askList (nilAsk p :: tl)).toArray 76)
  have hal : askList (nilAsk p :: tl) = [.func (.func 34) #[.pointer p] #[], .int .i64 1, .func (.func 45) #[] #[.pointer (some ⟨w1.heap.size, 0, none⟩), .pointer (some ⟨w1.heap.size + 1, 0, none⟩)], .int .i64 2, .func (.func 48) #[] #[.pointer (some ⟨w2.heap.size, 0, none⟩), .pointer (some ⟨w2.heap.size + 1, 0, none⟩)], .int .i64 311] := by rw [htl]; rfl
  rw [hal] at hcall k4
  clear hal htl
  refine wpAnyH_ready (rs := [9]) (by kernel_rfl) (by simp) ?_
  refine AllReadyH.cons rfl (fun K hK => ?_) AllReadyH.nil
  go_simp
  refine hK.out _ _ (HS.out _ k4) (fun hHeld => ?_)
  clear hK K
  try simp only [Act.put, List.getElem_toArray, List.getElem_cons_zero, List.getElem_cons_succ, List.setIfInBounds_toArray, List.set_cons_zero, List.set_cons_succ]
  refine wpAnyH_ready (rs := [10]) (by kernel_rfl) (by simp) ?_
  refine AllReadyH.cons rfl (fun K hK => ?_) AllReadyH.nil
  go_simp
  refine hcall.mono ?_; rintro e w5 ⟨rfl, k5⟩
  go_simp
  refine hK.out _ _ (HS.out _ k5) (fun hHeld => ?_)
  clear hK K
  try simp only [Act.put, List.getElem_toArray, List.getElem_cons_zero, List.getElem_cons_succ, List.setIfInBounds_toArray, List.set_cons_zero, List.set_cons_succ]
  refine wpAnyH_take (i := 11) (v := ?_) rfl (by kernel_rfl) (by kernel_rfl) (by kernel_rfl) (fun _ _ _ h => h) (Or.inl ⟨by rfl, ?_⟩) (by assumption) ?_
  rotate_left
  · (intro Y hSw; (try dsimp only at hSw); obtain ⟨hS0, hS1⟩ := hSw; go_simp; try with_reducible rfl)
  try simp only [Act.put, List.getElem_toArray, List.getElem_cons_zero, List.getElem_cons_succ, List.setIfInBounds_toArray, List.set_cons_zero, List.set_cons_succ]
  refine wpAnyH_done (by kernel_rfl) ?_ _
  rw [onlyN_normal]
  go_wp2_with fail
  go_ret
  exact ⟨rfl, k0.trans (k5.mono z0)⟩
theorem Threads_none {w : World} {p : Option Addr} (hN : NoDk w p) (h : Hnd) :
    Calls Try.prog 15 #[.pointer p, .agg #[.int .i64 h.s, .int .i64 h.g]] w fun e w' => e = .returned (.slice none 0 0) ∧ Below w.heap.size w w' := by
  obtain ⟨w0, hw0⟩ : ∃ w0, w.alloc (.cells #[.int .i64 h.s, .int .i64 h.g] 28) = w0 := ⟨_, rfl⟩
  have hH : Blk w0 w.heap.size #[.int .i64 h.s, .int .i64 h.g] 28 := by rw [← hw0]; exact Blk.new w _ _
  have k0 : Below w.heap.size w w0 := by rw [← hw0]; exact (Below.refl _ w).alloc (Nat.le_refl _) _
  have h0 := hN.step k0
  have c0 : w0.cell? ⟨w.heap.size, 0, none⟩ = some (.int .i64 h.s) := hH.cell 0 rfl
  have c1 : w0.cell? ⟨w.heap.size, 1, none⟩ = some (.int .i64 h.g) := hH.cell 1 rfl
  go_enter Try.func15, Try.ntmps15
  go_wp2_with fail
  clear hw0 c0 c1
  refine (Check_none h0 h).mono ?_; rintro e w1 ⟨rfl, h1⟩
  go_wp2_with fail
  go_ret
  exact ⟨rfl, k0.trans (h1.mono k0.size)⟩
theorem Destroy_none {w : World} {p : Option Addr} (hN : NoDk w p) (h : Hnd) :
    Calls Try.prog 10 #[.pointer p, .agg #[.int .i64 h.s, .int .i64 h.g]] w fun e w' => e = .returned (.tuple #[.slice none 0 0, .int .i64 1]) ∧ Below w.heap.size w w' := by
  obtain ⟨w0, hw0⟩ : ∃ w0, w.alloc (.cells #[.int .i64 h.s, .int .i64 h.g] 28) = w0 := ⟨_, rfl⟩
  have hH : Blk w0 w.heap.size #[.int .i64 h.s, .int .i64 h.g] 28 := by rw [← hw0]; exact Blk.new w _ _
  have k0 : Below w.heap.size w w0 := by rw [← hw0]; exact (Below.refl _ w).alloc (Nat.le_refl _) _
  have h0 := hN.step k0
  have c0 : w0.cell? ⟨w.heap.size, 0, none⟩ = some (.int .i64 h.s) := hH.cell 0 rfl
  have c1 : w0.cell? ⟨w.heap.size, 1, none⟩ = some (.int .i64 h.g) := hH.cell 1 rfl
  go_enter Try.func10, Try.ntmps10
  go_wp2_with fail
  clear hw0 c0 c1
  refine (Check_none h0 h).mono ?_; rintro e w1 ⟨rfl, h1⟩
  go_wp2_with fail
  go_ret2
  exact ⟨rfl, k0.trans (h1.mono k0.size)⟩
theorem Info_none {w : World} {p : Option Addr} (hN : NoDk w p) (h : Hnd) :
    Calls Try.prog 25 #[.pointer p, .agg #[.int .i64 h.s, .int .i64 h.g]] w fun e w' => e = .returned (.tuple #[.int .i64 0, .int .i64 0, .int .i64 1]) ∧ Below w.heap.size w w' := by
  obtain ⟨w0, hw0⟩ : ∃ w0, w.alloc (.cells #[.int .i64 h.s, .int .i64 h.g] 28) = w0 := ⟨_, rfl⟩
  have hH : Blk w0 w.heap.size #[.int .i64 h.s, .int .i64 h.g] 28 := by rw [← hw0]; exact Blk.new w _ _
  have k0 : Below w.heap.size w w0 := by rw [← hw0]; exact (Below.refl _ w).alloc (Nat.le_refl _) _
  have h0 := hN.step k0
  have c0 : w0.cell? ⟨w.heap.size, 0, none⟩ = some (.int .i64 h.s) := hH.cell 0 rfl
  have c1 : w0.cell? ⟨w.heap.size, 1, none⟩ = some (.int .i64 h.g) := hH.cell 1 rfl
  go_enter Try.func25, Try.ntmps25
  go_wp2_with fail
  clear hw0 c0 c1
  refine (Check_none h0 h).mono ?_; rintro e w1 ⟨rfl, h1⟩
  go_wp2_with fail
  go_ret3
  exact ⟨rfl, k0.trans (h1.mono k0.size)⟩
theorem Of_none {w : World} {p : Option Addr} (hN : NoDk w p) (t : Int) :
    Calls Try.prog 16 #[.pointer p, .int .i64 t] w fun e w' => e = .returned (.tuple #[encH ⟨0, 0⟩, .bool false]) ∧ Below w.heap.size w w' := by
  obtain ⟨w0, hw0⟩ : ∃ w0, w.alloc (.cells #[.int .i64 0, .int .i64 0] 28) = w0 := ⟨_, rfl⟩
  have hR : Blk w0 w.heap.size #[.int .i64 0, .int .i64 0] 28 := by rw [← hw0]; exact Blk.new w _ _
  have k0 : Below w.heap.size w w0 := by rw [← hw0]; exact (Below.refl _ w).alloc (Nat.le_refl _) _
  have h0 := hN.step k0
  go_enter Try.func16, Try.ntmps16
  go_wp2_with fail
  clear hw0
  refine (none_no h0).mono ?_; rintro e w1 ⟨rfl, h1⟩
  have hR1 := hR.below h1 hR.lt
  have kk := k0.trans (h1.mono k0.size)
  have r0 : w1.cell? ⟨w.heap.size, 0, none⟩ = some (.int .i64 0) := hR1.cell 0 rfl
  have r1 : w1.cell? ⟨w.heap.size, 1, none⟩ = some (.int .i64 0) := hR1.cell 1 rfl
  have f0 := hR1.frozen 0
  have f1 := hR1.frozen 1
  go_wp2_with fail
  exact ret_h2 rfl w.heap.size rfl (hR1.set2 _ _) rfl rfl ⟨rfl, (kk.setCell (p := ⟨w.heap.size, 0, none⟩) (Nat.le_refl _) _).setCell (p := ⟨w.heap.size, 1, none⟩) (Nat.le_refl _) _⟩
theorem Unbind_none {w : World} {p : Option Addr} (hN : NoDk w p) (t : Int) :
    Calls Try.prog 12 #[.pointer p, .int .i64 t] w fun e w' => e = .returned (.tuple #[encH ⟨0, 0⟩, .int .i64 1]) ∧ Below w.heap.size w w' := by
  obtain ⟨w0, hw0⟩ : ∃ w0, w.alloc (.cells #[.int .i64 0, .int .i64 0] 28) = w0 := ⟨_, rfl⟩
  have hR : Blk w0 w.heap.size #[.int .i64 0, .int .i64 0] 28 := by rw [← hw0]; exact Blk.new w _ _
  have k0 : Below w.heap.size w w0 := by rw [← hw0]; exact (Below.refl _ w).alloc (Nat.le_refl _) _
  have h0 := hN.step k0
  have z0 := k0.size
  go_enter Try.func12, Try.ntmps12
  go_wp2_with fail
  clear hw0
  refine (is_calls _ _).mono ?_; rintro e w1 ⟨rfl, h1⟩
  go_wp2_with fail
  refine (within_calls t 3 w1).mono ?_; rintro e w2 ⟨rfl, q1, q2, h2⟩
  have k2 := h1.trans (h2.mono h1.size)
  clear h1 h2 q1 q2
  obtain ⟨tl, htl⟩ : ∃ tl : List Ask, tl = [⟨47, #[], #[.pointer (some ⟨w1.heap.size, 0, none⟩), .pointer (some ⟨w1.heap.size + 1, 0, none⟩)], 2, false⟩] := ⟨_, rfl⟩
  have hcall := nil_asked h0 k2 tl (by rw [htl]; simp [askFns]) (by rw [htl]; simp) 2 (by rw [htl]; rfl)
  have hal : askList (nilAsk p :: tl) = [.func (.func 34) #[.pointer p] #[], .int .i64 1, .func (.func 47) #[] #[.pointer (some ⟨w1.heap.size, 0, none⟩), .pointer (some ⟨w1.heap.size + 1, 0, none⟩)], .int .i64 2] := by rw [htl]; rfl
  rw [hal] at hcall
  clear hal htl
  go_wp2_with fail
  refine hcall.mono ?_; rintro e w5 ⟨rfl, k5⟩
  have hR5 := hR.below k5 hR.lt
  have kk := k0.trans (k5.mono z0)
  have r0 : w5.cell? ⟨w.heap.size, 0, none⟩ = some (.int .i64 0) := hR5.cell 0 rfl
  have r1 : w5.cell? ⟨w.heap.size, 1, none⟩ = some (.int .i64 0) := hR5.cell 1 rfl
  have f0 := hR5.frozen 0
  have f1 := hR5.frozen 1
  clear hcall
  go_wp2_with fail
  exact ret_h2 rfl w.heap.size rfl (hR5.set2 _ _) rfl rfl ⟨rfl, (kk.setCell (p := ⟨w.heap.size, 0, none⟩) (Nat.le_refl _) _).setCell (p := ⟨w.heap.size, 1, none⟩) (Nat.le_refl _) _⟩
theorem Bind_none {w : World} {p : Option Addr} (hN : NoDk w p) (t : Int) (h : Hnd) :
    Calls Try.prog 11 #[.pointer p, .int .i64 t, .agg #[.int .i64 h.s, .int .i64 h.g]] w fun e w' => e = .returned (.tuple #[encH ⟨0, 0⟩, .int .i64 1]) ∧ Below w.heap.size w w' := by
  obtain ⟨w0, hw0⟩ : ∃ w0, (w.alloc (.cells #[.int .i64 h.s, .int .i64 h.g] 28)).alloc (.cells #[.int .i64 0, .int .i64 0] 28) = w0 := ⟨_, rfl⟩
  have hH : Blk w0 w.heap.size #[.int .i64 h.s, .int .i64 h.g] 28 := by rw [← hw0]; exact (Blk.new w _ _).alloc _
  have hR : Blk w0 (w.heap.size + 1) #[.int .i64 0, .int .i64 0] 28 := by rw [← hw0]; exact Blk.newAt _ _ _ (by simp)
  have k0 : Below w.heap.size w w0 := by rw [← hw0]; exact ((Below.refl _ w).alloc (Nat.le_refl _) _).alloc (by simp) _
  have h0 := hN.step k0
  have z0 := k0.size
  have hS : ∀ Y, Below w0.heap.size w0 Y → ChS w.heap.size h Y := fun Y k => ⟨(hH.below k hH.lt).cell 0 rfl, (hH.below k hH.lt).cell 1 rfl⟩
  have HS := Lib.hid hS
  clear hS
  go_enter Try.func11, Try.ntmps11
  go_wp2_with fail
  clear hw0
  refine wp_onlyN ?_
  refine wp_region_held_drew (S := ChS w.heap.size h) (by kernel_rfl) (HS.out _ (Below.refl _ w0).drew) (fun hHeld => ?_)
  refine wpAnyH_take (i := 0) (v := ?_) rfl (by kernel_rfl) (by kernel_rfl) (by kernel_rfl) (fun _ _ _ h => h) (Or.inl ⟨by rfl, ?_⟩) (by assumption) ?_
  rotate_left
  · (intro Y hSw; (try dsimp only at hSw); obtain ⟨hS0, hS1⟩ := hSw; go_simp; try with_reducible rfl)
  try simp only [Act.put, List.getElem_toArray, List.getElem_cons_zero, List.getElem_cons_succ, List.setIfInBounds_toArray, List.set_cons_zero, List.set_cons_succ]
  refine wpAnyH_take (i := 2) (v := ?_) rfl (by kernel_rfl) (by kernel_rfl) (by kernel_rfl) (fun _ _ _ h => h) (Or.inl ⟨by rfl, ?_⟩) (by assumption) ?_
  rotate_left
  · (intro Y hSw; (try dsimp only at hSw); obtain ⟨hS0, hS1⟩ := hSw; go_simp; try with_reducible rfl)
  try simp only [Act.put, List.getElem_toArray, List.getElem_cons_zero, List.getElem_cons_succ, List.setIfInBounds_toArray, List.set_cons_zero, List.set_cons_succ]
  refine wpAnyH_take (i := 4) (v := ?_) rfl (by kernel_rfl) (by kernel_rfl) (by kernel_rfl) (fun _ _ _ h => h) (Or.inl ⟨by rfl, ?_⟩) (by assumption) ?_
  rotate_left
  · (intro Y hSw; (try dsimp only at hSw); obtain ⟨hS0, hS1⟩ := hSw; go_simp; try with_reducible rfl)
  try simp only [Act.put, List.getElem_toArray, List.getElem_cons_zero, List.getElem_cons_succ, List.setIfInBounds_toArray, List.set_cons_zero, List.set_cons_succ]
  refine wpAnyH_take (i := 5) (v := ?_) rfl (by kernel_rfl) (by kernel_rfl) (by kernel_rfl) (fun _ _ _ h => h) (Or.inl ⟨by rfl, ?_⟩) (by assumption) ?_
  rotate_left
  · (intro Y hSw; (try dsimp only at hSw); obtain ⟨hS0, hS1⟩ := hSw; go_simp; try with_reducible rfl)
  try simp only [Act.put, List.getElem_toArray, List.getElem_cons_zero, List.getElem_cons_succ, List.setIfInBounds_toArray, List.set_cons_zero, List.set_cons_succ]
  refine wpAnyH_take (i := 6) (v := ?_) rfl (by kernel_rfl) (by kernel_rfl) (by kernel_rfl) (fun _ _ _ h => h) (Or.inl ⟨by rfl, ?_⟩) (by assumption) ?_
  rotate_left
  · (intro Y hSw; (try dsimp only at hSw); obtain ⟨hS0, hS1⟩ := hSw; go_simp; try with_reducible rfl)
  try simp only [Act.put, List.getElem_toArray, List.getElem_cons_zero, List.getElem_cons_succ, List.setIfInBounds_toArray, List.set_cons_zero, List.set_cons_succ]
  refine wpAnyH_take (i := 8) (v := ?_) rfl (by kernel_rfl) (by kernel_rfl) (by kernel_rfl) (fun _ _ _ h => h) (Or.inl ⟨by rfl, ?_⟩) (by assumption) ?_
  rotate_left
  · (intro Y hSw; (try dsimp only at hSw); obtain ⟨hS0, hS1⟩ := hSw; go_simp; try with_reducible rfl)
  try simp only [Act.put, List.getElem_toArray, List.getElem_cons_zero, List.getElem_cons_succ, List.setIfInBounds_toArray, List.set_cons_zero, List.set_cons_succ]
  refine wpAnyH_take (i := 9) (v := ?_) rfl (by kernel_rfl) (by kernel_rfl) (by kernel_rfl) (fun _ _ _ h => h) (Or.inl ⟨by rfl, ?_⟩) (by assumption) ?_
  rotate_left
  · (intro Y hSw; (try dsimp only at hSw); obtain ⟨hS0, hS1⟩ := hSw; go_simp; try with_reducible rfl)
  try simp only [Act.put, List.getElem_toArray, List.getElem_cons_zero, List.getElem_cons_succ, List.setIfInBounds_toArray, List.set_cons_zero, List.set_cons_succ]
  refine wpAnyH_ready (rs := [1]) (by kernel_rfl) (by simp) ?_
  refine AllReadyH.cons rfl (fun K hK => ?_) AllReadyH.nil
  go_simp
  refine (is_calls _ _).mono ?_; rintro e w1 ⟨rfl, h1⟩
  have k1 := (Below.refl w0.heap.size w0).drew.trans (h1.mono (Nat.le_refl _))
  go_simp
  refine hK.out _ _ (HS.out _ k1) (fun hHeld => ?_)
  clear hK K
  try simp only [Act.put, List.getElem_toArray, List.getElem_cons_zero, List.getElem_cons_succ, List.setIfInBounds_toArray, List.set_cons_zero, List.set_cons_succ]
  refine wpAnyH_ready (rs := [3]) (by kernel_rfl) (by simp) ?_
  refine AllReadyH.cons rfl (fun K hK => ?_) AllReadyH.nil
  go_simp
  refine (within_calls t 3 w1).mono ?_; rintro e w2 ⟨rfl, q1, q2, h2⟩
  have k2 := k1.trans (h2.mono k1.size)
  go_simp
  refine hK.out _ _ (HS.out _ k2) (fun hHeld => ?_)
  clear hK K
  try simp only [Act.put, List.getElem_toArray, List.getElem_cons_zero, List.getElem_cons_succ, List.setIfInBounds_toArray, List.set_cons_zero, List.set_cons_succ]
  refine wpAnyH_ready (rs := [7]) (by kernel_rfl) (by simp) ?_
  refine AllReadyH.cons rfl (fun K hK => ?_) AllReadyH.nil
  go_simp
  refine (place_calls p h.s w2).mono ?_; rintro e w3 ⟨rfl, p1, p2, h3⟩
  have k3 := k2.trans (h3.mono k2.size)
  go_simp
  refine hK.out _ _ (HS.out _ k3) (fun hHeld => ?_)
  clear hK K
  try simp only [Act.put, List.getElem_toArray, List.getElem_cons_zero, List.getElem_cons_succ, List.setIfInBounds_toArray, List.set_cons_zero, List.set_cons_succ]
  refine wpAnyH_ready (rs := [10]) (by kernel_rfl) (by simp) ?_
  refine AllReadyH.cons rfl (fun K hK => ?_) AllReadyH.nil
  go_simp
  refine (whose_calls p h w3).mono ?_; rintro e w4 ⟨rfl, q3, q4, h4⟩
  have k4 := k3.trans (h4.mono k3.size)
  have z4 := k4.size
  go_simp
  refine hK.out _ _ (HS.out _ k4) (fun hHeld => ?_)
  clear hK K
  try simp only [Act.put, List.getElem_toArray, List.getElem_cons_zero, List.getElem_cons_succ, List.setIfInBounds_toArray, List.set_cons_zero, List.set_cons_succ]
  clear p1 p2 q1 q2 q3 q4 h1 h2 h3 h4 k1 k2 k3
  obtain ⟨tl, htl⟩ : ∃ tl : List Ask, tl = [⟨47, #[], #[.pointer (some ⟨w1.heap.size, 0, none⟩), .pointer (some ⟨w1.heap.size + 1, 0, none⟩)], 2, false⟩, ⟨45, #[], #[.pointer (some ⟨w2.heap.size, 0, none⟩), .pointer (some ⟨w2.heap.size + 1, 0, none⟩)], 2, false⟩, ⟨48, #[], #[.pointer (some ⟨w3.heap.size, 0, none⟩), .pointer (some ⟨w3.heap.size + 1, 0, none⟩)], 311, false⟩] := ⟨_, rfl⟩
  have hcall := nil_asked h0 k4 tl (by rw [htl]; simp [askFns]) (by rw [htl]; simp) 4 (by rw [htl]; rfl)
  have k5 := k4.alloc z4 (.cells (askList (nilAsk p :: tl)).toArray 76)
  have hal : askList (nilAsk p :: tl) = [.func (.func 34) #[.pointer p] #[], .int .i64 1, .func (.func 47) #[] #[.pointer (some ⟨w1.heap.size, 0, none⟩), .pointer (some ⟨w1.heap.size + 1, 0, none⟩)], .int .i64 2, .func (.func 45) #[] #[.pointer (some ⟨w2.heap.size, 0, none⟩), .pointer (some ⟨w2.heap.size + 1, 0, none⟩)], .int .i64 2, .func (.func 48) #[] #[.pointer (some ⟨w3.heap.size, 0, none⟩), .pointer (some ⟨w3.heap.size + 1, 0, none⟩)], .int .i64 311] := by rw [htl]; rfl
  rw [hal] at hcall k5
  clear hal htl
  refine wpAnyH_ready (rs := [11]) (by kernel_rfl) (by simp) ?_
  refine AllReadyH.cons rfl (fun K hK => ?_) AllReadyH.nil
  go_simp
  refine hK.out _ _ (HS.out _ k5) (fun hHeld => ?_)
  clear hK K
  try simp only [Act.put, List.getElem_toArray, List.getElem_cons_zero, List.getElem_cons_succ, List.setIfInBounds_toArray, List.set_cons_zero, List.set_cons_succ]
  refine wpAnyH_ready (rs := [12]) (by kernel_rfl) (by simp) ?_
  refine AllReadyH.cons rfl (fun K hK => ?_) AllReadyH.nil
  go_simp
  refine hcall.mono ?_; rintro e w6 ⟨rfl, k6⟩
  go_simp
  refine hK.out _ _ (HS.out _ k6) (fun hHeld => ?_)
  clear hK K
  try simp only [Act.put, List.getElem_toArray, List.getElem_cons_zero, List.getElem_cons_succ, List.setIfInBounds_toArray, List.set_cons_zero, List.set_cons_succ]
  refine wpAnyH_take (i := 13) (v := ?_) rfl (by kernel_rfl) (by kernel_rfl) (by kernel_rfl) (fun _ _ _ h => h) (Or.inl ⟨by rfl, ?_⟩) (by assumption) ?_
  rotate_left
  · (intro Y hSw; (try dsimp only at hSw); obtain ⟨hS0, hS1⟩ := hSw; go_simp; try with_reducible rfl)
  try simp only [Act.put, List.getElem_toArray, List.getElem_cons_zero, List.getElem_cons_succ, List.setIfInBounds_toArray, List.set_cons_zero, List.set_cons_succ]
  refine wpAnyH_done (by kernel_rfl) ?_ _
  rw [onlyN_normal]
  have hR6 := hR.below k6 hR.lt
  have kk := k0.trans (k6.mono z0)
  have r0 : w6.cell? ⟨w.heap.size + 1, 0, none⟩ = some (.int .i64 0) := hR6.cell 0 rfl
  have r1 : w6.cell? ⟨w.heap.size + 1, 1, none⟩ = some (.int .i64 0) := hR6.cell 1 rfl
  have f0 := hR6.frozen 0
  have f1 := hR6.frozen 1
  clear hcall k4 k5 k6 hHeld z4
  go_wp2_with fail
  exact ret_h2 rfl (w.heap.size + 1) rfl (hR6.set2 _ _) rfl rfl ⟨rfl, (kk.setCell (p := ⟨w.heap.size + 1, 0, none⟩) (by dsimp only; omega) _).setCell (p := ⟨w.heap.size + 1, 1, none⟩) (by dsimp only; omega) _⟩
structure CtN (pd ps : Nat) (p : Option Addr) (s : Int) (Y : World) : Prop where
  d : Y.cell? ⟨pd, 0, none⟩ = some (.pointer p)
  s : Y.cell? ⟨ps, 0, none⟩ = some (.int .i64 s)
theorem Create_none {w : World} {p : Option Addr} (hN : NoDk w p) (s q f : Int) :
    Calls Try.prog 8 #[.pointer p, .int .i64 s, .int .i64 q, .int .i64 f] w fun e w' => e = .returned (.tuple #[encH ⟨0, 0⟩, .int .i64 1]) ∧ Below w.heap.size w w' := by
  obtain ⟨w0, hw0⟩ : ∃ w0, ((w.alloc (.cells #[.pointer p] 24)).alloc (.cells #[.int .i64 s] 3)).alloc (.cells #[.int .i64 0, .int .i64 0] 28) = w0 := ⟨_, rfl⟩
  have hB1 : Blk w0 w.heap.size #[.pointer p] 24 := by rw [← hw0]; exact ((Blk.new w _ _).alloc _).alloc _
  have hB2 : Blk w0 (w.heap.size + 1) #[.int .i64 s] 3 := by rw [← hw0]; exact (Blk.newAt _ _ _ (by simp)).alloc _
  have hR : Blk w0 (w.heap.size + 1 + 1) #[.int .i64 0, .int .i64 0] 28 := by rw [← hw0]; exact Blk.newAt _ _ _ (by simp)
  have k0 : Below w.heap.size w w0 := by rw [← hw0]; exact (((Below.refl _ w).alloc (Nat.le_refl _) _).alloc (by simp) _).alloc (by simp; omega) _
  have h0 := hN.step k0
  have z0 := k0.size
  have hS : ∀ Y, Below w0.heap.size w0 Y → CtN w.heap.size (w.heap.size + 1) p s Y := fun Y k => ⟨(hB1.below k hB1.lt).cell 0 rfl, (hB2.below k hB2.lt).cell 0 rfl⟩
  have HS := Lib.hid hS
  clear hS hB1 hB2
  go_enter Try.func8, Try.ntmps8
  go_wp2_with fail
  clear hw0
  refine wp_onlyN ?_
  refine wp_region_held_drew (S := CtN w.heap.size (w.heap.size + 1) p s) (by kernel_rfl) (HS.out _ (Below.refl _ w0).drew) (fun hHeld => ?_)
  refine wpAnyH_take (i := 0) (v := ?_) rfl (by kernel_rfl) (by kernel_rfl) (by kernel_rfl) (fun _ _ _ h => h) (Or.inl ⟨by rfl, ?_⟩) (by assumption) ?_
  rotate_left
  · (intro Y hSw; (try dsimp only at hSw); obtain ⟨hS0, hS1⟩ := hSw; go_simp; try with_reducible rfl)
  try simp only [Act.put, List.getElem_toArray, List.getElem_cons_zero, List.getElem_cons_succ, List.setIfInBounds_toArray, List.set_cons_zero, List.set_cons_succ]
  refine wpAnyH_take (i := 2) (v := ?_) rfl (by kernel_rfl) (by kernel_rfl) (by kernel_rfl) (fun _ _ _ h => h) (Or.inl ⟨by rfl, ?_⟩) (by assumption) ?_
  rotate_left
  · (intro Y hSw; (try dsimp only at hSw); obtain ⟨hS0, hS1⟩ := hSw; go_simp; try with_reducible rfl)
  try simp only [Act.put, List.getElem_toArray, List.getElem_cons_zero, List.getElem_cons_succ, List.setIfInBounds_toArray, List.set_cons_zero, List.set_cons_succ]
  refine wpAnyH_take (i := 3) (v := ?_) rfl (by kernel_rfl) (by kernel_rfl) (by kernel_rfl) (fun _ _ _ h => h) (Or.inl ⟨by rfl, ?_⟩) (by assumption) ?_
  rotate_left
  · (intro Y hSw; (try dsimp only at hSw); obtain ⟨hS0, hS1⟩ := hSw; go_simp; try with_reducible rfl)
  try simp only [Act.put, List.getElem_toArray, List.getElem_cons_zero, List.getElem_cons_succ, List.setIfInBounds_toArray, List.set_cons_zero, List.set_cons_succ]
  refine wpAnyH_take (i := 5) (v := ?_) rfl (by kernel_rfl) (by kernel_rfl) (by kernel_rfl) (fun _ _ _ h => h) (Or.inl ⟨by rfl, ?_⟩) (by assumption) ?_
  rotate_left
  · (intro Y hSw; (try dsimp only at hSw); obtain ⟨hS0, hS1⟩ := hSw; go_simp; try with_reducible rfl)
  try simp only [Act.put, List.getElem_toArray, List.getElem_cons_zero, List.getElem_cons_succ, List.setIfInBounds_toArray, List.set_cons_zero, List.set_cons_succ]
  refine wpAnyH_take (i := 7) (v := ?_) rfl (by kernel_rfl) (by kernel_rfl) (by kernel_rfl) (fun _ _ _ h => h) (Or.inl ⟨by rfl, ?_⟩) (by assumption) ?_
  rotate_left
  · (intro Y hSw; (try dsimp only at hSw); obtain ⟨hS0, hS1⟩ := hSw; go_simp; try with_reducible rfl)
  try simp only [Act.put, List.getElem_toArray, List.getElem_cons_zero, List.getElem_cons_succ, List.setIfInBounds_toArray, List.set_cons_zero, List.set_cons_succ]
  refine wpAnyH_take (i := 9) (v := ?_) rfl (by kernel_rfl) (by kernel_rfl) (by kernel_rfl) (fun _ _ _ h => h) (Or.inl ⟨by rfl, ?_⟩) (by assumption) ?_
  rotate_left
  · (intro Y hSw; (try dsimp only at hSw); obtain ⟨hS0, hS1⟩ := hSw; go_simp; try with_reducible rfl)
  try simp only [Act.put, List.getElem_toArray, List.getElem_cons_zero, List.getElem_cons_succ, List.setIfInBounds_toArray, List.set_cons_zero, List.set_cons_succ]
  refine wpAnyH_take (i := 10) (v := ?_) rfl (by kernel_rfl) (by kernel_rfl) (by kernel_rfl) (fun _ _ _ h => h) (Or.inl ⟨by rfl, ?_⟩) (by assumption) ?_
  rotate_left
  · (intro Y hSw; (try dsimp only at hSw); obtain ⟨hS0, hS1⟩ := hSw; go_simp; try with_reducible rfl)
  try simp only [Act.put, List.getElem_toArray, List.getElem_cons_zero, List.getElem_cons_succ, List.setIfInBounds_toArray, List.set_cons_zero, List.set_cons_succ]
  refine wpAnyH_ready (rs := [1]) (by kernel_rfl) (by simp) ?_
  refine AllReadyH.cons rfl (fun K hK => ?_) AllReadyH.nil
  go_simp
  refine (is_calls _ _).mono ?_; rintro e w1 ⟨rfl, h1⟩
  have k1 := (Below.refl w0.heap.size w0).drew.trans (h1.mono (Nat.le_refl _))
  go_simp
  refine hK.out _ _ (HS.out _ k1) (fun hHeld => ?_)
  clear hK K
  try simp only [Act.put, List.getElem_toArray, List.getElem_cons_zero, List.getElem_cons_succ, List.setIfInBounds_toArray, List.set_cons_zero, List.set_cons_succ]
  refine wpAnyH_ready (rs := [4]) (by kernel_rfl) (by simp) ?_
  refine AllReadyH.cons rfl (fun K hK => ?_) AllReadyH.nil
  go_simp
  refine (place_calls p s w1).mono ?_; rintro e w2 ⟨rfl, p1, p2, h2⟩
  have k2 := k1.trans (h2.mono k1.size)
  go_simp
  refine hK.out _ _ (HS.out _ k2) (fun hHeld => ?_)
  clear hK K
  try simp only [Act.put, List.getElem_toArray, List.getElem_cons_zero, List.getElem_cons_succ, List.setIfInBounds_toArray, List.set_cons_zero, List.set_cons_succ]
  refine wpAnyH_ready (rs := [6]) (by kernel_rfl) (by simp) ?_
  refine AllReadyH.cons rfl (fun K hK => ?_) AllReadyH.nil
  go_simp
  refine (within_calls q 1073741824 w2).mono ?_; rintro e w3 ⟨rfl, q1, q2, h3⟩
  have k3 := k2.trans (h3.mono k2.size)
  go_simp
  refine hK.out _ _ (HS.out _ k3) (fun hHeld => ?_)
  clear hK K
  try simp only [Act.put, List.getElem_toArray, List.getElem_cons_zero, List.getElem_cons_succ, List.setIfInBounds_toArray, List.set_cons_zero, List.set_cons_succ]
  refine wpAnyH_ready (rs := [8]) (by kernel_rfl) (by simp) ?_
  refine AllReadyH.cons rfl (fun K hK => ?_) AllReadyH.nil
  go_simp
  refine (within_calls f 16384 w3).mono ?_; rintro e w4 ⟨rfl, q3, q4, h4⟩
  have k4 := k3.trans (h4.mono k3.size)
  have z4 := k4.size
  go_simp
  refine hK.out _ _ (HS.out _ k4) (fun hHeld => ?_)
  clear hK K
  try simp only [Act.put, List.getElem_toArray, List.getElem_cons_zero, List.getElem_cons_succ, List.setIfInBounds_toArray, List.set_cons_zero, List.set_cons_succ]
  clear p1 p2 q1 q2 q3 q4 h1 h2 h3 h4 k1 k2 k3
  obtain ⟨tl, htl⟩ : ∃ tl : List Ask, tl = [⟨45, #[], #[.pointer (some ⟨w1.heap.size, 0, none⟩), .pointer (some ⟨w1.heap.size + 1, 0, none⟩)], 2, false⟩, ⟨47, #[], #[.pointer (some ⟨w2.heap.size, 0, none⟩), .pointer (some ⟨w2.heap.size + 1, 0, none⟩)], 2, false⟩, ⟨47, #[], #[.pointer (some ⟨w3.heap.size, 0, none⟩), .pointer (some ⟨w3.heap.size + 1, 0, none⟩)], 2, false⟩, ⟨30, #[], #[.pointer (some ⟨w.heap.size, 0, none⟩), .pointer (some ⟨w.heap.size + 1, 0, none⟩)], 310, false⟩] := ⟨_, rfl⟩
  have hcall := nil_asked h0 k4 tl (by rw [htl]; simp [askFns]) (by rw [htl]; simp) 5 (by rw [htl]; rfl)
  have k5 := k4.alloc z4 (.cells (askList (nilAsk p :: tl)).toArray 76)
  have hal : askList (nilAsk p :: tl) = [.func (.func 34) #[.pointer p] #[], .int .i64 1, .func (.func 45) #[] #[.pointer (some ⟨w1.heap.size, 0, none⟩), .pointer (some ⟨w1.heap.size + 1, 0, none⟩)], .int .i64 2, .func (.func 47) #[] #[.pointer (some ⟨w2.heap.size, 0, none⟩), .pointer (some ⟨w2.heap.size + 1, 0, none⟩)], .int .i64 2, .func (.func 47) #[] #[.pointer (some ⟨w3.heap.size, 0, none⟩), .pointer (some ⟨w3.heap.size + 1, 0, none⟩)], .int .i64 2, .func (.func 30) #[] #[.pointer (some ⟨w.heap.size, 0, none⟩), .pointer (some ⟨w.heap.size + 1, 0, none⟩)], .int .i64 310] := by rw [htl]; rfl
  rw [hal] at hcall k5
  clear hal htl
  refine wpAnyH_ready (rs := [11]) (by kernel_rfl) (by simp) ?_
  refine AllReadyH.cons rfl (fun K hK => ?_) AllReadyH.nil
  go_simp
  refine hK.out _ _ (HS.out _ k5) (fun hHeld => ?_)
  clear hK K
  try simp only [Act.put, List.getElem_toArray, List.getElem_cons_zero, List.getElem_cons_succ, List.setIfInBounds_toArray, List.set_cons_zero, List.set_cons_succ]
  refine wpAnyH_ready (rs := [12]) (by kernel_rfl) (by simp) ?_
  refine AllReadyH.cons rfl (fun K hK => ?_) AllReadyH.nil
  go_simp
  refine hcall.mono ?_; rintro e w6 ⟨rfl, k6⟩
  go_simp
  refine hK.out _ _ (HS.out _ k6) (fun hHeld => ?_)
  clear hK K
  try simp only [Act.put, List.getElem_toArray, List.getElem_cons_zero, List.getElem_cons_succ, List.setIfInBounds_toArray, List.set_cons_zero, List.set_cons_succ]
  refine wpAnyH_take (i := 13) (v := ?_) rfl (by kernel_rfl) (by kernel_rfl) (by kernel_rfl) (fun _ _ _ h => h) (Or.inl ⟨by rfl, ?_⟩) (by assumption) ?_
  rotate_left
  · (intro Y hSw; (try dsimp only at hSw); obtain ⟨hS0, hS1⟩ := hSw; go_simp; try with_reducible rfl)
  try simp only [Act.put, List.getElem_toArray, List.getElem_cons_zero, List.getElem_cons_succ, List.setIfInBounds_toArray, List.set_cons_zero, List.set_cons_succ]
  refine wpAnyH_done (by kernel_rfl) ?_ _
  rw [onlyN_normal]
  have hR6 := hR.below k6 hR.lt
  have kk := k0.trans (k6.mono z0)
  have r0 : w6.cell? ⟨w.heap.size + 1 + 1, 0, none⟩ = some (.int .i64 0) := hR6.cell 0 rfl
  have r1 : w6.cell? ⟨w.heap.size + 1 + 1, 1, none⟩ = some (.int .i64 0) := hR6.cell 1 rfl
  have f0 := hR6.frozen 0
  have f1 := hR6.frozen 1
  clear hcall k4 k5 k6 hHeld z4
  go_wp2_with fail
  exact ret_h2 rfl (w.heap.size + 1 + 1) rfl (hR6.set2 _ _) rfl rfl ⟨rfl, (kk.setCell (p := ⟨w.heap.size + 1 + 1, 0, none⟩) (by dsimp only; omega) _).setCell (p := ⟨w.heap.size + 1 + 1, 1, none⟩) (by dsimp only; omega) _⟩
end Go.Proofs.Ytchknegenaoliaa
