/-
  Package frame: its functions of no pool: questions, Take, Reserve. No condition.
-/
import Derived.Test.YtfmkjckckekliaaFrDp
import Derived.Test.YtfmkjckckekliaaFrDq
namespace Go.Proofs.Ytfmkjckckekliaa
open Go.RowKit
attribute [local go_sem] Oper.semAt_some
set_option maxHeartbeats 1000000
set_option maxRecDepth 8000

/-- No pool: none, or a zero one. -/
def NoP (W : World) (p : Option Addr) : Prop := p = none ∨ ∃ b : Nat, p = some ⟨b, 0, none⟩ ∧ Blk W b #[.map none, .map none, .int .i64 0] 76
theorem NoP.step {W W' : World} {p : Option Addr} (h : NoP W p) (k : Below W.heap.size W W') : NoP W' p := by
  rcases h with h | ⟨b, h, hb⟩
  · exact .inl h
  · exact .inr ⟨b, h, hb.below k hb.lt⟩
theorem run_eql_nil_nil {P : Program} {t k e : TypeId} (ht : P.underlying t = some (.map k e)) (w : World) : (binOp .eql t (.map none) (.map none)).run P w = .ok (.bool true) w := by
  have h1 : ∀ d : Nat, (Op.equalIn (d + 1) t (.map none) (.map none)).run P w = .ok true w := fun d => by simp [Op.equalIn, run_underlying ht]
  simp only [binOp]
  simp [Op.equal, Op.maxDepth, h1 9999]
theorem none_no {w : World} {p : Option Addr} (h : NoP w p) : Calls Try.prog 38 #[.pointer p] w fun e w' => e = .returned (.bool true) ∧ Below w.heap.size w w' := by
  rcases h with rfl | ⟨b, rfl, hb⟩
  · go_enter Try.func38, Try.ntmps38
    go_wp2_with fail
    go_ret
    exact ⟨rfl, Below.refl _ _⟩
  · have c0 : w.cell? ⟨b, 0, none⟩ = some (.map none) := hb.cell 0 rfl
    have he := run_eql_nil_nil (P := Try.prog) Try.underlying72 w
    go_enter Try.func38, Try.ntmps38
    go_wp2_with fail
    go_ret
    exact ⟨rfl, Below.refl _ _⟩
theorem none_enter (args : Array Value) (W : World) : (callFunc 38 args).run Try.prog W = .ok (.enter 38 args) W := by go_simp
/-- The first question is answered with its error. -/
theorem asked_no {w : World} {bb n cap : Nat} {p : Option Addr} (hn : 0 < n) (hl : n ≤ 1000) (hN : NoP w p) (c0 : w.cell? ⟨bb, 0, none⟩ = some (.func (.func 38) #[.pointer p] #[])) (c1 : w.cell? ⟨bb, 1, none⟩ = some (.int .i64 1)) :
    Calls Try.prog 29 #[.slice (some ⟨bb, 0, none⟩) n cap] w fun e w' => e = .returned (.int .i64 1) ∧ Below w.heap.size w w' := by
  have HN := Lib.hid hN
  have hne := none_enter
  clear hN
  go_enter Try.func29, Try.ntmps29
  go_wp2_with fail
  refine wp_scope_fwd 0 rfl ?_
  go_wp2_with (first | go_step3 | rw [fwd_goto] | rw [fwd_ret] | rw [Exit.noGoto_ret])
  go_loopw [7] (fun i wr => i = .int .i64 0 ∧ wr = w) (fun _ _ => 0)
  case atStart => exact ⟨rfl, rfl⟩
  case round =>
    obtain ⟨rfl, rfl⟩ := hrel
    have i1 : (0 : Int) < n := by omega
    have hb1 : Below wr.heap.size wr (wr.alloc (.cells #[.func (.func 38) #[.pointer p] #[], .int .i64 1] 79)) := (Below.refl _ wr).alloc (Nat.le_refl _) _
    have hX := Blk.new wr #[.func (.func 38) #[.pointer p] #[], .int .i64 1] 79
    go_wp2_with fail
    refine (none_no (HN.out.step hb1)).mono ?_; rintro e w1 ⟨rfl, h1⟩
    go_wp2_with fail
    go_wp2_with (first | go_step3 | rw [fwd_goto] | rw [fwd_ret] | rw [Exit.noGoto_ret])
    go_ret
    exact ⟨rfl, hb1.trans (h1.mono hb1.size)⟩
structure NoS (pp pw : Nat) (p : Option Addr) (who : Int) (Y : World) : Prop where
  c0 : Y.cell? ⟨pp, 0, none⟩ = some (.pointer p)
  c1 : Y.cell? ⟨pw, 0, none⟩ = some (.int .i64 who)
theorem NoS.of {w0 Y : World} {pp pw : Nat} {p : Option Addr} {who : Int} (h0 : w0.cell? ⟨pp, 0, none⟩ = some (.pointer p)) (h1 : w0.cell? ⟨pw, 0, none⟩ = some (.int .i64 who)) (k : Below w0.heap.size w0 Y) : NoS pp pw p who Y :=
  ⟨(k.cell (p := ⟨pp, 0, none⟩) (World.block_lt_of_cell? w0 _ h0)).trans h0, (k.cell (p := ⟨pw, 0, none⟩) (World.block_lt_of_cell? w0 _ h1)).trans h1⟩
theorem Take_none {w : World} {p : Option Addr} (hN : NoP w p) (who : Int) :
    Calls Try.prog 11 #[.pointer p, .int .i64 who] w fun e w' => e = .returned (.tuple #[.int .i64 0, .int .i64 1]) ∧ Below w.heap.size w w' := by
  obtain ⟨w0, hw0⟩ : ∃ w0, ((w.alloc (.cells #[.pointer p] 23)).alloc (.cells #[.int .i64 who] 3)).alloc (.cells #[.int .i64 0] 3) = w0 := ⟨_, rfl⟩
  have hA : Blk w0 w.heap.size #[.pointer p] 23 := by rw [← hw0]; exact ((Blk.new w _ _).alloc _).alloc _
  have hB : Blk w0 (w.heap.size + 1) #[.int .i64 who] 3 := by rw [← hw0]; exact (Blk.newAt _ _ _ (by simp)).alloc _
  have hC : Blk w0 (w.heap.size + 1 + 1) #[.int .i64 0] 3 := by rw [← hw0]; exact Blk.newAt _ _ _ (by simp)
  have hb0 : Below w.heap.size w w0 := by rw [← hw0]; exact (((Below.refl _ w).alloc (Nat.le_refl _) _).alloc (by simp) _).alloc (by simp; omega) _
  have z0 := hb0.size
  have h0 := hN.step hb0
  have a0 : w0.cell? ⟨w.heap.size, 0, none⟩ = some (.pointer p) := hA.cell 0 rfl
  have a1 : w0.cell? ⟨w.heap.size + 1, 0, none⟩ = some (.int .i64 who) := hB.cell 0 rfl
  refine calls_of_wp_marks Try.func11 rfl ?_; simp only [Try.ntmps11, List.size_toArray, List.length_cons, List.length_nil, Nat.reduceAdd, Nat.reduceSub, Array.replicate_succ, Array.replicate_zero, List.push_toArray, List.append_toArray, List.nil_append, List.cons_append]
  go_wp2_with fail
  clear hw0
  refine wp_scope_straight ?_
  go_wp2_with fail
  refine wp_onlyN ?_
  refine wp_region_held_drew (S := NoS w.heap.size (w.heap.size + 1) p who) (by kernel_rfl) (NoS.of a0 a1 (Below.refl _ w0).drew) (fun hHeld => ?_)
  refine wpAnyH_take (i := 0) (v := ?_) rfl (by kernel_rfl) (by kernel_rfl) (by kernel_rfl) (fun _ _ _ h => h) (Or.inl ⟨by rfl, ?_⟩) (by assumption) ?_
  rotate_left
  · (intro Y hSw; (try dsimp only at hSw); obtain ⟨hS0, hS1⟩ := hSw; go_simp; try with_reducible rfl)
  try simp only [Act.put, List.getElem_toArray, List.getElem_cons_zero, List.getElem_cons_succ, List.setIfInBounds_toArray, List.set_cons_zero, List.set_cons_succ]
  refine wpAnyH_take (i := 2) (v := ?_) rfl (by kernel_rfl) (by kernel_rfl) (by kernel_rfl) (fun _ _ _ h => h) (Or.inl ⟨by rfl, ?_⟩) (by assumption) ?_
  rotate_left
  · (intro Y hSw; (try dsimp only at hSw); obtain ⟨hS0, hS1⟩ := hSw; go_simp; try with_reducible rfl)
  try simp only [Act.put, List.getElem_toArray, List.getElem_cons_zero, List.getElem_cons_succ, List.setIfInBounds_toArray, List.set_cons_zero, List.set_cons_succ]
  refine wpAnyH_take (i := 4) (v := ?_) rfl (by kernel_rfl) (by kernel_rfl) (by kernel_rfl) (fun _ _ _ h => h) (Or.inl ⟨by rfl, ?_⟩) (by assumption) ?_
  rotate_left
  · (intro Y hSw; (try dsimp only at hSw); obtain ⟨hS0, hS1⟩ := hSw; go_simp; try with_reducible rfl)
  try simp only [Act.put, List.getElem_toArray, List.getElem_cons_zero, List.getElem_cons_succ, List.setIfInBounds_toArray, List.set_cons_zero, List.set_cons_succ]
  refine wpAnyH_take (i := 5) (v := ?_) rfl (by kernel_rfl) (by kernel_rfl) (by kernel_rfl) (fun _ _ _ h => h) (Or.inl ⟨by rfl, ?_⟩) (by assumption) ?_
  rotate_left
  · (intro Y hSw; (try dsimp only at hSw); obtain ⟨hS0, hS1⟩ := hSw; go_simp; try with_reducible rfl)
  try simp only [Act.put, List.getElem_toArray, List.getElem_cons_zero, List.getElem_cons_succ, List.setIfInBounds_toArray, List.set_cons_zero, List.set_cons_succ]
  refine wpAnyH_ready (rs := [1]) (by kernel_rfl) (by simp) ?_
  refine AllReadyH.cons rfl (fun K hK => ?_) AllReadyH.nil
  go_simp
  refine (is_calls _ _).mono ?_; rintro e w1 ⟨rfl, h1⟩
  have k1 := (Below.refl w0.heap.size w0).drew.trans (h1.mono (Nat.le_refl _))
  go_wp2_with fail
  refine hK.out _ _ (NoS.of a0 a1 k1) (fun hHeld => ?_)
  clear hK K
  try simp only [Act.put, List.getElem_toArray, List.getElem_cons_zero, List.getElem_cons_succ, List.setIfInBounds_toArray, List.set_cons_zero, List.set_cons_succ]
  refine wpAnyH_ready (rs := [3]) (by kernel_rfl) (by simp) ?_
  refine AllReadyH.cons rfl (fun K hK => ?_) AllReadyH.nil
  go_simp
  refine (owner_calls _ _).mono ?_; rintro e w2 ⟨rfl, hO, h2⟩
  have k2 := k1.trans (h2.mono k1.size)
  have z2 := k2.size
  go_wp2_with fail
  refine hK.out _ _ (NoS.of a0 a1 k2) (fun hHeld => ?_)
  clear hK K
  try simp only [Act.put, List.getElem_toArray, List.getElem_cons_zero, List.getElem_cons_succ, List.setIfInBounds_toArray, List.set_cons_zero, List.set_cons_succ]
  refine wpAnyH_ready (rs := [6]) (by kernel_rfl) (by simp) ?_
  refine AllReadyH.cons rfl (fun K hK => ?_) AllReadyH.nil
  go_simp
  refine hK.out _ _ (NoS.of a0 a1 (k2.alloc z2 _)) (fun hHeld => ?_)
  clear hK K
  try simp only [Act.put, List.getElem_toArray, List.getElem_cons_zero, List.getElem_cons_succ, List.setIfInBounds_toArray, List.set_cons_zero, List.set_cons_succ]
  have k3 := fun o => k2.alloc z2 o
  generalize hw3 : World.alloc w2 _ = w3 at hHeld ⊢
  have kk3 : Below w0.heap.size w0 w3 := by rw [← hw3]; exact k3 _
  have d0 : w3.cell? ⟨w2.heap.size, 0, none⟩ = some (.func (.func 38) #[.pointer p] #[]) := by rw [← hw3]; exact (Blk.new w2 _ _).cell 0 rfl
  have d1 : w3.cell? ⟨w2.heap.size, 1, none⟩ = some (.int .i64 1) := by rw [← hw3]; exact (Blk.new w2 _ _).cell 1 rfl
  clear hw3 k3
  refine wpAnyH_ready (rs := [7]) (by kernel_rfl) (by simp) ?_
  refine AllReadyH.cons rfl (fun K hK => ?_) AllReadyH.nil
  go_simp
  refine (asked_no (n := 3) (cap := 3) (by omega) (by omega) (h0.step kk3) d0 d1).mono ?_; rintro e w4 ⟨rfl, h4⟩
  have k4 := kk3.trans (h4.mono kk3.size)
  go_wp2_with fail
  refine hK.out _ _ (NoS.of a0 a1 k4) (fun hHeld => ?_)
  clear hK K
  try simp only [Act.put, List.getElem_toArray, List.getElem_cons_zero, List.getElem_cons_succ, List.setIfInBounds_toArray, List.set_cons_zero, List.set_cons_succ]
  refine wpAnyH_take (i := 8) (v := ?_) rfl (by kernel_rfl) (by kernel_rfl) (by kernel_rfl) (fun _ _ _ h => h) (Or.inl ⟨by rfl, ?_⟩) (by assumption) ?_
  rotate_left
  · (intro Y hSw; (try dsimp only at hSw); obtain ⟨hS0, hS1⟩ := hSw; go_simp; try with_reducible rfl)
  try simp only [Act.put, List.getElem_toArray, List.getElem_cons_zero, List.getElem_cons_succ, List.setIfInBounds_toArray, List.set_cons_zero, List.set_cons_succ]
  refine wpAnyH_done (by kernel_rfl) ?_ _
  rw [onlyN_normal]
  have hC4 := hC.below k4 hC.lt
  have c2 : w4.cell? ⟨w.heap.size + 1 + 1, 0, none⟩ = some (.int .i64 0) := hC4.cell 0 rfl
  have f2 := hC4.frozen 0
  have kk := hb0.trans (k4.mono z0)
  clear hHeld d0 d1 h4 kk3 hO h1 h2 k1 k2
  go_wp2_with fail
  rw [Exit.noGoto_ret]
  have gF := hC4.set 0 (.int .i64 0)
  have tF := gF.cell 0 (v := .int .i64 0) rfl
  refine postM_ret0 (v := .tuple #[.int .i64 0, .int .i64 1]) (by simp [results, Try.results11, go_sem, tF]) ⟨rfl, kk.setCell (p := ⟨w.heap.size + 1 + 1, 0, none⟩) (by dsimp only; omega) _⟩
theorem Reserve_none {w : World} {p : Option Addr} (hN : NoP w p) (who n : Int) :
    Calls Try.prog 10 #[.pointer p, .int .i64 who, .int .i64 n] w fun e w' => e = .returned (.int .i64 1) ∧ Below w.heap.size w w' := by
  obtain ⟨w0, hw0⟩ : ∃ w0, ((w.alloc (.cells #[.pointer p] 23)).alloc (.cells #[.int .i64 who] 3)).alloc (.cells #[.int .i64 n] 3) = w0 := ⟨_, rfl⟩
  have hA : Blk w0 w.heap.size #[.pointer p] 23 := by rw [← hw0]; exact ((Blk.new w _ _).alloc _).alloc _
  have hB : Blk w0 (w.heap.size + 1) #[.int .i64 who] 3 := by rw [← hw0]; exact (Blk.newAt _ _ _ (by simp)).alloc _
  have hb0 : Below w.heap.size w w0 := by rw [← hw0]; exact (((Below.refl _ w).alloc (Nat.le_refl _) _).alloc (by simp) _).alloc (by simp; omega) _
  have z0 := hb0.size
  have h0 := hN.step hb0
  have a0 : w0.cell? ⟨w.heap.size, 0, none⟩ = some (.pointer p) := hA.cell 0 rfl
  have a1 : w0.cell? ⟨w.heap.size + 1, 0, none⟩ = some (.int .i64 who) := hB.cell 0 rfl
  go_enter Try.func10, Try.ntmps10
  go_wp2_with fail
  clear hw0
  refine wp_onlyN ?_
  refine wp_region_held_drew (S := NoS w.heap.size (w.heap.size + 1) p who) (by kernel_rfl) (NoS.of a0 a1 (Below.refl _ w0).drew) (fun hHeld => ?_)
  refine wpAnyH_take (i := 0) (v := ?_) rfl (by kernel_rfl) (by kernel_rfl) (by kernel_rfl) (fun _ _ _ h => h) (Or.inl ⟨by rfl, ?_⟩) (by assumption) ?_
  rotate_left
  · (intro Y hSw; (try dsimp only at hSw); obtain ⟨hS0, hS1⟩ := hSw; go_simp; try with_reducible rfl)
  try simp only [Act.put, List.getElem_toArray, List.getElem_cons_zero, List.getElem_cons_succ, List.setIfInBounds_toArray, List.set_cons_zero, List.set_cons_succ]
  refine wpAnyH_take (i := 2) (v := ?_) rfl (by kernel_rfl) (by kernel_rfl) (by kernel_rfl) (fun _ _ _ h => h) (Or.inl ⟨by rfl, ?_⟩) (by assumption) ?_
  rotate_left
  · (intro Y hSw; (try dsimp only at hSw); obtain ⟨hS0, hS1⟩ := hSw; go_simp; try with_reducible rfl)
  try simp only [Act.put, List.getElem_toArray, List.getElem_cons_zero, List.getElem_cons_succ, List.setIfInBounds_toArray, List.set_cons_zero, List.set_cons_succ]
  refine wpAnyH_take (i := 4) (v := ?_) rfl (by kernel_rfl) (by kernel_rfl) (by kernel_rfl) (fun _ _ _ h => h) (Or.inl ⟨by rfl, ?_⟩) (by assumption) ?_
  rotate_left
  · (intro Y hSw; (try dsimp only at hSw); obtain ⟨hS0, hS1⟩ := hSw; go_simp; try with_reducible rfl)
  try simp only [Act.put, List.getElem_toArray, List.getElem_cons_zero, List.getElem_cons_succ, List.setIfInBounds_toArray, List.set_cons_zero, List.set_cons_succ]
  refine wpAnyH_take (i := 5) (v := ?_) rfl (by kernel_rfl) (by kernel_rfl) (by kernel_rfl) (fun _ _ _ h => h) (Or.inl ⟨by rfl, ?_⟩) (by assumption) ?_
  rotate_left
  · (intro Y hSw; (try dsimp only at hSw); obtain ⟨hS0, hS1⟩ := hSw; go_simp; try with_reducible rfl)
  try simp only [Act.put, List.getElem_toArray, List.getElem_cons_zero, List.getElem_cons_succ, List.setIfInBounds_toArray, List.set_cons_zero, List.set_cons_succ]
  refine wpAnyH_take (i := 6) (v := ?_) rfl (by kernel_rfl) (by kernel_rfl) (by kernel_rfl) (fun _ _ _ h => h) (Or.inl ⟨by rfl, ?_⟩) (by assumption) ?_
  rotate_left
  · (intro Y hSw; (try dsimp only at hSw); obtain ⟨hS0, hS1⟩ := hSw; go_simp; try with_reducible rfl)
  try simp only [Act.put, List.getElem_toArray, List.getElem_cons_zero, List.getElem_cons_succ, List.setIfInBounds_toArray, List.set_cons_zero, List.set_cons_succ]
  refine wpAnyH_take (i := 7) (v := ?_) rfl (by kernel_rfl) (by kernel_rfl) (by kernel_rfl) (fun _ _ _ h => h) (Or.inl ⟨by rfl, ?_⟩) (by assumption) ?_
  rotate_left
  · (intro Y hSw; (try dsimp only at hSw); obtain ⟨hS0, hS1⟩ := hSw; go_simp; try with_reducible rfl)
  try simp only [Act.put, List.getElem_toArray, List.getElem_cons_zero, List.getElem_cons_succ, List.setIfInBounds_toArray, List.set_cons_zero, List.set_cons_succ]
  refine wpAnyH_take (i := 8) (v := ?_) rfl (by kernel_rfl) (by kernel_rfl) (by kernel_rfl) (fun _ _ _ h => h) (Or.inl ⟨by rfl, ?_⟩) (by assumption) ?_
  rotate_left
  · (intro Y hSw; (try dsimp only at hSw); obtain ⟨hS0, hS1⟩ := hSw; go_simp; try with_reducible rfl)
  try simp only [Act.put, List.getElem_toArray, List.getElem_cons_zero, List.getElem_cons_succ, List.setIfInBounds_toArray, List.set_cons_zero, List.set_cons_succ]
  refine wpAnyH_take (i := 9) (v := ?_) rfl (by kernel_rfl) (by kernel_rfl) (by kernel_rfl) (fun _ _ _ h => h) (Or.inl ⟨by rfl, ?_⟩) (by assumption) ?_
  rotate_left
  · (intro Y hSw; (try dsimp only at hSw); obtain ⟨hS0, hS1⟩ := hSw; go_simp; try with_reducible rfl)
  try simp only [Act.put, List.getElem_toArray, List.getElem_cons_zero, List.getElem_cons_succ, List.setIfInBounds_toArray, List.set_cons_zero, List.set_cons_succ]
  refine wpAnyH_ready (rs := [1]) (by kernel_rfl) (by simp) ?_
  refine AllReadyH.cons rfl (fun K hK => ?_) AllReadyH.nil
  go_simp
  refine (is_calls _ _).mono ?_; rintro e w1 ⟨rfl, h1⟩
  have k1 := (Below.refl w0.heap.size w0).drew.trans (h1.mono (Nat.le_refl _))
  go_wp2_with fail
  refine hK.out _ _ (NoS.of a0 a1 k1) (fun hHeld => ?_)
  clear hK K
  try simp only [Act.put, List.getElem_toArray, List.getElem_cons_zero, List.getElem_cons_succ, List.setIfInBounds_toArray, List.set_cons_zero, List.set_cons_succ]
  refine wpAnyH_ready (rs := [3]) (by kernel_rfl) (by simp) ?_
  refine AllReadyH.cons rfl (fun K hK => ?_) AllReadyH.nil
  go_simp
  refine (owner_calls _ _).mono ?_; rintro e w2 ⟨rfl, hO, h2⟩
  have k2 := k1.trans (h2.mono k1.size)
  have z2 := k2.size
  go_wp2_with fail
  refine hK.out _ _ (NoS.of a0 a1 k2) (fun hHeld => ?_)
  clear hK K
  try simp only [Act.put, List.getElem_toArray, List.getElem_cons_zero, List.getElem_cons_succ, List.setIfInBounds_toArray, List.set_cons_zero, List.set_cons_succ]
  refine wpAnyH_ready (rs := [10]) (by kernel_rfl) (by simp) ?_
  refine AllReadyH.cons rfl (fun K hK => ?_) AllReadyH.nil
  go_simp
  refine hK.out _ _ (NoS.of a0 a1 (k2.alloc z2 _)) (fun hHeld => ?_)
  clear hK K
  try simp only [Act.put, List.getElem_toArray, List.getElem_cons_zero, List.getElem_cons_succ, List.setIfInBounds_toArray, List.set_cons_zero, List.set_cons_succ]
  have k3 := fun o => k2.alloc z2 o
  generalize hw3 : World.alloc w2 _ = w3 at hHeld ⊢
  have kk3 : Below w0.heap.size w0 w3 := by rw [← hw3]; exact k3 _
  have d0 : w3.cell? ⟨w2.heap.size, 0, none⟩ = some (.func (.func 38) #[.pointer p] #[]) := by rw [← hw3]; exact (Blk.new w2 _ _).cell 0 rfl
  have d1 : w3.cell? ⟨w2.heap.size, 1, none⟩ = some (.int .i64 1) := by rw [← hw3]; exact (Blk.new w2 _ _).cell 1 rfl
  clear hw3 k3
  refine wpAnyH_ready (rs := [11]) (by kernel_rfl) (by simp) ?_
  refine AllReadyH.cons rfl (fun K hK => ?_) AllReadyH.nil
  go_simp
  refine (asked_no (n := 5) (cap := 5) (by omega) (by omega) (h0.step kk3) d0 d1).mono ?_; rintro e w4 ⟨rfl, h4⟩
  have k4 := kk3.trans (h4.mono kk3.size)
  go_wp2_with fail
  refine hK.out _ _ (NoS.of a0 a1 k4) (fun hHeld => ?_)
  clear hK K
  try simp only [Act.put, List.getElem_toArray, List.getElem_cons_zero, List.getElem_cons_succ, List.setIfInBounds_toArray, List.set_cons_zero, List.set_cons_succ]
  refine wpAnyH_take (i := 12) (v := ?_) rfl (by kernel_rfl) (by kernel_rfl) (by kernel_rfl) (fun _ _ _ h => h) (Or.inl ⟨by rfl, ?_⟩) (by assumption) ?_
  rotate_left
  · (intro Y hSw; (try dsimp only at hSw); obtain ⟨hS0, hS1⟩ := hSw; go_simp; try with_reducible rfl)
  try simp only [Act.put, List.getElem_toArray, List.getElem_cons_zero, List.getElem_cons_succ, List.setIfInBounds_toArray, List.set_cons_zero, List.set_cons_succ]
  refine wpAnyH_done (by kernel_rfl) ?_ _
  rw [onlyN_normal]
  have kk := hb0.trans (k4.mono z0)
  clear hHeld d0 d1 h4 kk3 hO h1 h2 k1 k2
  go_wp2_with fail
  go_ret
  exact ⟨rfl, kk⟩
theorem there_none {w : World} {p : Option Addr} (hN : NoP w p) (fr at_ n : Int) :
    Calls Try.prog 39 #[.pointer p, .int .i64 fr, .int .i64 at_, .int .i64 n] w fun e w' => e = .returned (.int .i64 1) ∧ Below w.heap.size w w' := by
  obtain ⟨w0, hw0⟩ : ∃ w0, (((w.alloc (.cells #[.pointer p] 23)).alloc (.cells #[.int .i64 fr] 3)).alloc (.cells #[.int .i64 at_] 3)).alloc (.cells #[.int .i64 n] 3) = w0 := ⟨_, rfl⟩
  have hA : Blk w0 w.heap.size #[.pointer p] 23 := by rw [← hw0]; exact (((Blk.new w _ _).alloc _).alloc _).alloc _
  have hb0 : Below w.heap.size w w0 := by rw [← hw0]; exact ((((Below.refl _ w).alloc (Nat.le_refl _) _).alloc (by simp) _).alloc (by simp; omega) _).alloc (by simp; omega) _
  have h0 := hN.step hb0
  have a0 : w0.cell? ⟨w.heap.size, 0, none⟩ = some (.pointer p) := hA.cell 0 rfl
  go_enter Try.func39, Try.ntmps39
  go_wp2_with fail
  clear hw0
  refine (is_calls _ _).mono ?_; rintro e w1 ⟨rfl, h1⟩
  go_wp2_with fail
  have k3 := fun o => (h1.mono (Nat.le_refl _)).alloc h1.size o
  generalize hw3 : World.alloc w1 _ = w3
  have kk3 : Below w0.heap.size w0 w3 := by rw [← hw3]; exact k3 _
  have d0 : w3.cell? ⟨w1.heap.size, 0, none⟩ = some (.func (.func 38) #[.pointer p] #[]) := by rw [← hw3]; exact (Blk.new w1 _ _).cell 0 rfl
  have d1 : w3.cell? ⟨w1.heap.size, 1, none⟩ = some (.int .i64 1) := by rw [← hw3]; exact (Blk.new w1 _ _).cell 1 rfl
  refine (asked_no (n := 4) (cap := 4) (by omega) (by omega) (h0.step kk3) d0 d1).mono ?_; rintro e w4 ⟨rfl, h4⟩
  clear hw3 k3 d0 d1
  go_wp2_with fail
  go_ret
  exact ⟨rfl, hb0.trans ((kk3.trans (h4.mono kk3.size)).mono hb0.size)⟩
theorem Give_none {w : World} {p : Option Addr} (hN : NoP w p) (fr : Int) :
    Calls Try.prog 14 #[.pointer p, .int .i64 fr] w fun e w' => e = .returned (.int .i64 1) ∧ Below w.heap.size w w' := by
  go_enter Try.func14, Try.ntmps14
  go_wp2_with fail
  refine (there_none hN _ _ _).mono ?_; rintro e w1 ⟨rfl, h1⟩
  go_wp2_with fail
  go_ret
  exact ⟨rfl, h1⟩
theorem Read_none {w : World} {p : Option Addr} (hN : NoP w p) (fr at_ n : Int) :
    Calls Try.prog 17 #[.pointer p, .int .i64 fr, .int .i64 at_, .int .i64 n] w fun e w' => e = .returned (.tuple #[.slice none 0 0, .int .i64 1]) ∧ Below w.heap.size w w' := by
  go_enter Try.func17, Try.ntmps17
  go_wp2_with fail
  refine (there_none hN _ _ _).mono ?_; rintro e w1 ⟨rfl, h1⟩
  go_wp2_with fail
  go_ret2
  exact ⟨rfl, h1⟩
theorem Write_none {w : World} {p : Option Addr} (hN : NoP w p) (fr at_ : Int) :
    Calls Try.prog 15 #[.pointer p, .int .i64 fr, .int .i64 at_, .slice none 0 0] w fun e w' => e = .returned (.int .i64 1) ∧ Below w.heap.size w w' := by
  go_enter Try.func15, Try.ntmps15
  go_wp2_with fail
  refine (there_none hN _ _ _).mono ?_; rintro e w1 ⟨rfl, h1⟩
  go_wp2_with fail
  go_ret
  exact ⟨rfl, h1⟩
theorem Owner_none {w : World} {p : Option Addr} (hN : NoP w p) (fr : Int) :
    Calls Try.prog 41 #[.pointer p, .int .i64 fr] w fun e w' => e = .returned (.tuple #[.int .i64 0, .bool false]) ∧ Below w.heap.size w w' := by
  go_enter Try.func41, Try.ntmps41
  go_wp2_with fail
  refine (none_no hN).mono ?_; rintro e w1 ⟨rfl, h1⟩
  go_wp2_with fail
  go_ret2
  exact ⟨rfl, h1⟩
theorem Reserved_none {w : World} {p : Option Addr} (hN : NoP w p) (who : Int) :
    Calls Try.prog 16 #[.pointer p, .int .i64 who] w fun e w' => e = .returned (.tuple #[.int .i64 0, .int .i64 0]) ∧ Below w.heap.size w w' := by
  go_enter Try.func16, Try.ntmps16
  go_wp2_with fail
  refine (none_no hN).mono ?_; rintro e w1 ⟨rfl, h1⟩
  go_wp2_with fail
  go_ret2
  exact ⟨rfl, h1⟩
theorem Room_none {w : World} {p : Option Addr} (hN : NoP w p) :
    Calls Try.prog 12 #[.pointer p] w fun e w' => e = .returned (.int .i64 0) ∧ Below w.heap.size w w' := by
  go_enter Try.func12, Try.ntmps12
  go_wp2_with fail
  refine (none_no hN).mono ?_; rintro e w1 ⟨rfl, h1⟩
  go_wp2_with fail
  go_ret
  exact ⟨rfl, h1⟩
theorem Copy_none {w : World} {p : Option Addr} (hN : NoP w p) :
    Calls Try.prog 24 #[.pointer p] w fun e w' => e = .returned (.pointer none) ∧ Below w.heap.size w w' := by
  go_enter Try.func24, Try.ntmps24
  go_wp2_with fail
  refine (none_no hN).mono ?_; rintro e w1 ⟨rfl, h1⟩
  go_wp2_with fail
  go_ret
  exact ⟨rfl, h1⟩
theorem Same_nn {w : World} {p q : Option Addr} (hS : NoP w p) (hT : NoP w q) : Calls Try.prog 23 #[.pointer p, .pointer q] w fun e w' => e = .returned (.bool true) ∧ Below w.heap.size w w' := by
  go_enter Try.func23, Try.ntmps23
  go_wp2_with fail
  refine (none_no hS).mono ?_; rintro e w1 ⟨rfl, h1⟩
  go_wp2_with fail
  refine (none_no (hS.step h1)).mono ?_; rintro e w2 ⟨rfl, h2⟩
  go_wp2_with fail
  refine (none_no ((hT.step h1).step h2)).mono ?_; rintro e w3 ⟨rfl, h3⟩
  go_wp2_with fail
  go_ret
  exact ⟨rfl, (h1.trans (h2.mono h1.size)).trans (h3.mono (Nat.le_trans h1.size h2.size))⟩
theorem Same_ln {w : World} {b bf br : Nat} {many : Int} {F : List Fr} {R : List (Int × Int)} {q : Option Addr} (hS : PoolAt w b bf br many F R) (hT : NoP w q) : Calls Try.prog 23 #[.pointer (some ⟨b, 0, none⟩), .pointer q] w fun e w' => e = .returned (.bool false) ∧ Below w.heap.size w w' := by
  go_enter Try.func23, Try.ntmps23
  go_wp2_with fail
  refine (none_live hS).mono ?_; rintro e w1 ⟨rfl, h1⟩
  go_wp2_with fail
  refine (none_no (hT.step h1)).mono ?_; rintro e w2 ⟨rfl, h2⟩
  go_wp2_with fail
  refine (none_live ((hS.step h1).step h2)).mono ?_; rintro e w3 ⟨rfl, h3⟩
  go_wp2_with fail
  go_ret
  exact ⟨rfl, (h1.trans (h2.mono h1.size)).trans (h3.mono (Nat.le_trans h1.size h2.size))⟩
theorem Same_nl {w : World} {b bf br : Nat} {many : Int} {F : List Fr} {R : List (Int × Int)} {q : Option Addr} (hS : PoolAt w b bf br many F R) (hT : NoP w q) : Calls Try.prog 23 #[.pointer q, .pointer (some ⟨b, 0, none⟩)] w fun e w' => e = .returned (.bool false) ∧ Below w.heap.size w w' := by
  go_enter Try.func23, Try.ntmps23
  go_wp2_with fail
  refine (none_no hT).mono ?_; rintro e w1 ⟨rfl, h1⟩
  go_wp2_with fail
  refine (none_no (hT.step h1)).mono ?_; rintro e w2 ⟨rfl, h2⟩
  go_wp2_with fail
  refine (none_live ((hS.step h1).step h2)).mono ?_; rintro e w3 ⟨rfl, h3⟩
  go_wp2_with fail
  go_ret
  exact ⟨rfl, (h1.trans (h2.mono h1.size)).trans (h3.mono (Nat.le_trans h1.size h2.size))⟩
end Go.Proofs.Ytfmkjckckekliaa
