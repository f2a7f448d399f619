/-
  Package page: Free, Copy, Same. Conditions: a table, its rows in order.
-/
import Derived.Test.YtchepkihlnpfeaaPgE
import Derived.Shelf.SlMaps.Clone
import Derived.Ground.SlmcProg
namespace Go.Proofs
open Go.RowKit Go.Maps Go.Sort Go.Shelf
def Try.cloneE_ren : Go.Shelf.Ren := ⟨fun | 5 => 45 | 7 => 57 | n => n, fun | 23 => 73 | 25 => 3 | 3 => 31 | 4 => 4 | 20 => 20 | n => n, fun | n => n⟩
theorem Try.cloneE : Go.Proofs.SlLaysW.n5 Try.prog Try.cloneE_ren := {
  mixed := by kernel_rfl
  f5 := ⟨Try.f45.name, by decide, Try.func45.trans (congrArg some (by kernel_rfl))⟩
  f7 := Try.func57.trans (congrArg some (by kernel_rfl))
  t4 := Try.underlying4
  a4 := Try.isAgg4
  z4 := Try.sizeOf4
  v4 := Try.zeroValue4
  t20 := Try.underlying20
  a20 := Try.isAgg20
  z20 := Try.sizeOf20
  v20 := Try.zeroValue20
  t23 := Try.underlying73
  a23 := Try.isAgg73
  z23 := Try.sizeOf73
  v23 := Try.zeroValue73 }
end Go.Proofs
namespace Go.Proofs.Ytchepkihlnpfeaa
open Go.RowKit
attribute [local go_sem] Oper.semAt_some
set_option maxHeartbeats 4000000
set_option maxRecDepth 4000

theorem free1_calls (n : Int) (p : Nat) (w : World) (hp : w.cell? ⟨p, 0, none⟩ = some (.int .i64 n)) : Calls Try.prog 48 #[.pointer (some ⟨p, 0, none⟩)] w fun e w' => e = .returned (.bool (decide (n < 1))) ∧ Below w.heap.size w w' := by
  go_enter Try.func48, Try.ntmps48
  go_wp2_with fail
  go_ret
  exact ⟨rfl, Below.refl _ _⟩
theorem free2_calls (n f : Int) (p q : Nat) (w : World) (hf : badP f = false) (hp : w.cell? ⟨p, 0, none⟩ = some (.int .i64 n)) (hq : w.cell? ⟨q, 0, none⟩ = some (.int .i64 f)) :
    Calls Try.prog 49 #[.pointer (some ⟨p, 0, none⟩), .pointer (some ⟨q, 0, none⟩)] w fun e w' => e = .returned (.bool (decide (65536 - f < n))) ∧ Below w.heap.size w w' := by
  have h2 : 0 ≤ f ∧ f < 65536 := by
    unfold badP at hf
    have := of_decide_eq_false hf
    omega
  have hsub : IntKind.i64.wrap (65536 - f) = 65536 - f := IntWalk.i64_in _ (by omega)
  go_enter Try.func49, Try.ntmps49
  go_wp2_with fail
  go_ret
  exact ⟨rfl, Below.refl _ _⟩
def freAsks (b bm bf bi : Nat) (f n : Int) : List Ask :=
  [⟨39, #[.pointer (some ⟨b, 0, none⟩)], #[], 1, false⟩, ⟨48, #[], #[.pointer (some ⟨bm, 0, none⟩)], 2, decide (n < 1)⟩, ⟨51, #[], #[.pointer (some ⟨bi, 0, none⟩)], 4, badP f⟩,
   ⟨49, #[], #[.pointer (some ⟨bm, 0, none⟩), .pointer (some ⟨bf, 0, none⟩)], 4, decide (65536 - f < n)⟩]
theorem freAsks_eq (b bm bf bi : Nat) (f n : Int) : firstErr (freAsks b bm bf bi f n) = freE f n := by simp [firstErr, freAsks, freE]
theorem fre_answers {W : World} {b m bm bf bi : Nat} {D : Tb} {f n : Int} (h : TblAt W b m D) (hm : Blk W bm #[.int .i64 n] 3) (hf : Blk W bf #[.int .i64 f] 3) (hi : Blk W bi #[.int .i64 f] 3) : Answers W (freAsks b bm bf bi f n) := by
  constructor
  · intro i h args W
    match i, h with
    | 0, _ => exact enters_of Try.func39 (by kernel_rfl) rfl args W
    | 1, _ => exact enters_of Try.func48 (by kernel_rfl) rfl args W
    | 2, _ => exact enters_of Try.func51 (by kernel_rfl) rfl args W
    | 3, _ => exact enters_of Try.func49 (by kernel_rfl) rfl args W
  · intro i hi' X hel kx
    match i, hi' with
    | 0, _ => exact none_live (h.step kx)
    | 1, _ => exact free1_calls n bm X ((hm.below kx hm.lt).cell 0 rfl)
    | 2, _ => exact in1_calls f bi X ((hi.below kx hi.lt).cell 0 rfl)
    | 3, _ => exact free2_calls n f bm bf X (hel 2 (by simp [freAsks]) (by omega)) ((hm.below kx hm.lt).cell 0 rfl) ((hf.below kx hf.lt).cell 0 rfl)
def frB (D : Tb) (f n : Int) : Bool := if freE f n = 0 then freeB D f n else false
structure FreS (pf pm : Nat) (f n : Int) (Y : World) : Prop where
  cf : Y.cell? ⟨pf, 0, none⟩ = some (.int .i64 f)
  cm : Y.cell? ⟨pm, 0, none⟩ = some (.int .i64 n)
theorem frB_eq {D : Tb} {f n : Int} (hs : SrtR D) (h : freE f n = 0) : (nxB D f n && (nxV D f n == f)) = frB D f n ∧ 0 ≤ f := by
  have h' := h
  unfold freE at h'
  split at h'
  · cases h'
  rename_i h1
  split at h'
  · cases h'
  rename_i h2
  split at h'
  · cases h'
  rename_i h3
  have h4 : 0 ≤ f ∧ f < 65536 := by
    unfold badP at h2
    have := of_decide_eq_false (by simpa using h2 : decide (f < 0 ∨ 65536 ≤ f) = false)
    omega
  refine ⟨?_, h4.1⟩
  unfold frB
  rw [if_pos h, ← free_next hs (by omega) h4.1 (by omega)]
  unfold nxB nxV
  have := nextI_lo D f n
  rw [Bool.eq_iff_iff, Bool.and_eq_true, beq_iff_eq, decide_eq_true_eq, decide_eq_true_eq]
  omega
theorem Free_ok {w : World} {b m : Nat} {D : Tb} (h : TblAt w b m D) (hg : Good D) (hl : D.length ≤ 100000) (f n : Int) (hfm : f ≤ 9223372036854775807) :
    Calls Try.prog 26 #[.pointer (some ⟨b, 0, none⟩), .int .i64 f, .int .i64 n] w fun e w' => e = .returned (.tuple #[.bool (frB D f n), .int .i64 (freE f n)]) ∧ Below w.heap.size w w' := by
  obtain ⟨w0, hw0⟩ : ∃ w0, (w.alloc (.cells #[.int .i64 f] 3)).alloc (.cells #[.int .i64 n] 3) = w0 := ⟨_, rfl⟩
  have hF : Blk w0 w.heap.size #[.int .i64 f] 3 := by rw [← hw0]; exact (Blk.new w _ _).alloc _
  have hM : Blk w0 (w.heap.size + 1) #[.int .i64 n] 3 := by rw [← hw0]; exact Blk.newAt _ _ _ (by simp)
  have k0 : Below w.heap.size w w0 := by rw [← hw0]; exact ((Below.refl _ w).alloc (Nat.le_refl _) _).alloc (by simp) _
  have h0 := h.step k0
  have z0 := k0.size
  have hS : ∀ Y, Below w0.heap.size w0 Y → FreS w.heap.size (w.heap.size + 1) f n Y := fun Y k => ⟨(hF.below k hF.lt).cell 0 rfl, (hM.below k hM.lt).cell 0 rfl⟩
  have HS := Lib.hid hS
  clear hS
  go_enter Try.func26, Try.ntmps26
  go_wp2_with fail
  clear hw0
  refine wp_onlyN ?_
  refine wp_region_held_drew (S := FreS w.heap.size (w.heap.size + 1) f n) (by kernel_rfl) (HS.out _ (Below.refl _ w0).drew) (fun hHeld => ?_)
  refine wpAnyH_take (i := 0) (v := ?_) rfl (by kernel_rfl) (by kernel_rfl) (by kernel_rfl) (fun _ _ _ h => h) (Or.inl ⟨by rfl, ?_⟩) (by assumption) ?_
  rotate_left
  · (intro Y hSw; (try dsimp only at hSw); obtain ⟨hS0, hS1⟩ := hSw; go_simp; try with_reducible rfl)
  try simp only [Act.put, List.getElem_toArray, List.getElem_cons_zero, List.getElem_cons_succ, List.setIfInBounds_toArray, List.set_cons_zero, List.set_cons_succ]
  refine wpAnyH_take (i := 2) (v := ?_) rfl (by kernel_rfl) (by kernel_rfl) (by kernel_rfl) (fun _ _ _ h => h) (Or.inl ⟨by rfl, ?_⟩) (by assumption) ?_
  rotate_left
  · (intro Y hSw; (try dsimp only at hSw); obtain ⟨hS0, hS1⟩ := hSw; go_simp; try with_reducible rfl)
  try simp only [Act.put, List.getElem_toArray, List.getElem_cons_zero, List.getElem_cons_succ, List.setIfInBounds_toArray, List.set_cons_zero, List.set_cons_succ]
  refine wpAnyH_take (i := 3) (v := ?_) rfl (by kernel_rfl) (by kernel_rfl) (by kernel_rfl) (fun _ _ _ h => h) (Or.inl ⟨by rfl, ?_⟩) (by assumption) ?_
  rotate_left
  · (intro Y hSw; (try dsimp only at hSw); obtain ⟨hS0, hS1⟩ := hSw; go_simp; try with_reducible rfl)
  try simp only [Act.put, List.getElem_toArray, List.getElem_cons_zero, List.getElem_cons_succ, List.setIfInBounds_toArray, List.set_cons_zero, List.set_cons_succ]
  refine wpAnyH_take (i := 4) (v := ?_) rfl (by kernel_rfl) (by kernel_rfl) (by kernel_rfl) (fun _ _ _ h => h) (Or.inl ⟨by rfl, ?_⟩) (by assumption) ?_
  rotate_left
  · (intro Y hSw; (try dsimp only at hSw); obtain ⟨hS0, hS1⟩ := hSw; go_simp; try with_reducible rfl)
  try simp only [Act.put, List.getElem_toArray, List.getElem_cons_zero, List.getElem_cons_succ, List.setIfInBounds_toArray, List.set_cons_zero, List.set_cons_succ]
  refine wpAnyH_take (i := 6) (v := ?_) rfl (by kernel_rfl) (by kernel_rfl) (by kernel_rfl) (fun _ _ _ h => h) (Or.inl ⟨by rfl, ?_⟩) (by assumption) ?_
  rotate_left
  · (intro Y hSw; (try dsimp only at hSw); obtain ⟨hS0, hS1⟩ := hSw; go_simp; try with_reducible rfl)
  try simp only [Act.put, List.getElem_toArray, List.getElem_cons_zero, List.getElem_cons_succ, List.setIfInBounds_toArray, List.set_cons_zero, List.set_cons_succ]
  refine wpAnyH_take (i := 7) (v := ?_) rfl (by kernel_rfl) (by kernel_rfl) (by kernel_rfl) (fun _ _ _ h => h) (Or.inl ⟨by rfl, ?_⟩) (by assumption) ?_
  rotate_left
  · (intro Y hSw; (try dsimp only at hSw); obtain ⟨hS0, hS1⟩ := hSw; go_simp; try with_reducible rfl)
  try simp only [Act.put, List.getElem_toArray, List.getElem_cons_zero, List.getElem_cons_succ, List.setIfInBounds_toArray, List.set_cons_zero, List.set_cons_succ]
  refine wpAnyH_ready (rs := [1]) (by kernel_rfl) (by simp) ?_
  refine AllReadyH.cons rfl (fun K hK => ?_) AllReadyH.nil
  go_simp
  refine (is_calls _ _).mono ?_; rintro e w1 ⟨rfl, h1⟩
  have k1 := (Below.refl w0.heap.size w0).drew.trans (h1.mono (Nat.le_refl _))
  go_simp
  refine hK.out _ _ (HS.out _ k1) (fun hHeld => ?_)
  clear hK K
  try simp only [Act.put, List.getElem_toArray, List.getElem_cons_zero, List.getElem_cons_succ, List.setIfInBounds_toArray, List.set_cons_zero, List.set_cons_succ]
  refine wpAnyH_ready (rs := [5]) (by kernel_rfl) (by simp) ?_
  refine AllReadyH.cons rfl (fun K hK => ?_) AllReadyH.nil
  go_simp
  refine (in_calls _ _).mono ?_; rintro e w3 ⟨rfl, hI, h3⟩
  have k3 := k1.trans (h3.mono k1.size)
  have z3 := k3.size
  go_simp
  refine hK.out _ _ (HS.out _ k3) (fun hHeld => ?_)
  clear hK K
  try simp only [Act.put, List.getElem_toArray, List.getElem_cons_zero, List.getElem_cons_succ, List.setIfInBounds_toArray, List.set_cons_zero, List.set_cons_succ]
  refine wpAnyH_ready (rs := [8]) (by kernel_rfl) (by simp) ?_
  refine AllReadyH.cons rfl (fun K hK => ?_) AllReadyH.nil
  go_simp
  have k4 := k3.alloc z3 (.cells (askList (freAsks b (w.heap.size + 1) w.heap.size w1.heap.size f n)).toArray 80)
  have hrow : AskRow (w3.alloc (.cells (askList (freAsks b (w.heap.size + 1) w.heap.size w1.heap.size f n)).toArray 80)) w3.heap.size (freAsks b (w.heap.size + 1) w.heap.size w1.heap.size f n) := askRow_of (Blk.new w3 _ _)
  have hI4 := hI.alloc (.cells (askList (freAsks b (w.heap.size + 1) w.heap.size w1.heap.size f n)).toArray 80)
  refine hK.out _ _ (HS.out _ k4) (fun hHeld => ?_)
  clear hK K
  try simp only [Act.put, List.getElem_toArray, List.getElem_cons_zero, List.getElem_cons_succ, List.setIfInBounds_toArray, List.set_cons_zero, List.set_cons_succ]
  change wpAnyH _ _ _ _ _ _ _ _ (w3.alloc (.cells (askList (freAsks b (w.heap.size + 1) w.heap.size w1.heap.size f n)).toArray 80))
  generalize (w3.alloc (.cells (askList (freAsks b (w.heap.size + 1) w.heap.size w1.heap.size f n)).toArray 80)) = w4 at k4 hrow hI4 hHeld ⊢
  have hans := fre_answers (h0.step k4) (hM.below k4 hM.lt) (hF.below k4 hF.lt) hI4
  refine wpAnyH_ready (rs := [9]) (by kernel_rfl) (by simp) ?_
  refine AllReadyH.cons rfl (fun K hK => ?_) AllReadyH.nil
  go_simp
  refine (asked_ok w4 w3.heap.size 4 4 _ rfl (by simp [freAsks]) (Lib.hid hrow) (Lib.hid hans)).mono ?_; rintro e w5 ⟨rfl, h5⟩
  rw [freAsks_eq]
  have k5 := k4.trans (h5.mono k4.size)
  have z5 := k5.size
  go_simp
  refine hK.out _ _ (HS.out _ k5) (fun hHeld => ?_)
  clear hK K
  try simp only [Act.put, List.getElem_toArray, List.getElem_cons_zero, List.getElem_cons_succ, List.setIfInBounds_toArray, List.set_cons_zero, List.set_cons_succ]
  refine wpAnyH_take (i := 10) (v := ?_) rfl (by kernel_rfl) (by kernel_rfl) (by kernel_rfl) (fun _ _ _ h => h) (Or.inl ⟨by rfl, ?_⟩) (by assumption) ?_
  rotate_left
  · (intro Y hSw; (try dsimp only at hSw); obtain ⟨hS0, hS1⟩ := hSw; go_simp; try with_reducible rfl)
  try simp only [Act.put, List.getElem_toArray, List.getElem_cons_zero, List.getElem_cons_succ, List.setIfInBounds_toArray, List.set_cons_zero, List.set_cons_succ]
  refine wpAnyH_done (by kernel_rfl) ?_ _
  rw [onlyN_normal]
  clear hrow hans hI4 hI h5 k4 k3 k1 h1 h3 hHeld
  have hT5 := h0.step k5
  have hch := k0.trans (k5.mono z0)
  have cs := HS.out _ k5
  obtain ⟨cf, cm⟩ := cs
  obtain ⟨q, hq⟩ : ∃ q, freE f n = q := ⟨_, rfl⟩
  have HQ := Lib.hid hq
  rw [hq]
  clear hq
  by_cases h9 : q = 0
  · subst h9
    obtain ⟨e1, hf0⟩ := frB_eq (D := D) hg.srt HQ.out
    have HE := Lib.hid e1
    clear e1
    go_wp2_with fail
    refine (Next_ok hT5 hg hl f n hfm).mono ?_; rintro e w6 ⟨rfl, k6⟩
    have cf6 : w6.cell? ⟨w.heap.size, 0, none⟩ = some (.int .i64 f) := (HS.out _ (k5.trans (k6.mono z5))).cf
    have hch6 := hch.trans (k6.mono (Nat.le_trans z0 z5))
    generalize nxV D f n = v at HE ⊢
    generalize nxB D f n = bb at HE ⊢
    clear cf cm
    cases bb
    · go_wp2_with fail
      go_ret2
      exact ⟨by rw [← HE.out, HQ.out]; rfl, hch6⟩
    · go_wp2_with fail
      go_ret2
      exact ⟨by rw [← HE.out, HQ.out]; rfl, hch6⟩
  · have hb : frB D f n = false := by unfold frB; rw [if_neg (by rw [HQ.out]; exact h9)]
    have HB := Lib.hid hb
    clear hb
    go_wp2_with fail
    go_ret2
    exact ⟨by rw [HB.out, HQ.out]; rfl, hch⟩
/-! ### Copy -/
theorem clone_map {w : World} {f b : Nat} {D : Tb} (h : MapP encE w b D) (hc : ∀ es clock, w.heap[b]? = some (.map es clock) → Calls Try.prog f #[.map (some b)] w fun e w' => e = .returned (.map (some w.heap.size)) ∧ w' = w.alloc (.map es clock)) :
    Calls Try.prog f #[.map (some b)] w fun e w' => e = .returned (.map (some w.heap.size)) ∧ MapP encE w' w.heap.size D ∧ ∃ o, w' = w.alloc o := by
  obtain ⟨l, hp, es, clock, hb, hs, he⟩ := h
  refine (hc es clock hb).mono ?_
  rintro e w' ⟨rfl, rfl⟩
  exact ⟨rfl, ⟨l, hp, es, clock, World.alloc_heap_new w _, hs, he⟩, _, rfl⟩
theorem clone_calls {w : World} {b : Nat} {D : Tb} (h : MapP encE w b D) : Calls Try.prog 45 #[.map (some b)] w fun e w' => e = .returned (.map (some w.heap.size)) ∧ MapP encE w' w.heap.size D ∧ ∃ o, w' = w.alloc o :=
  clone_map h fun es clock hb => Go.Proofs.AnyW.maps_Clone Try.cloneE b es clock w hb
theorem Copy_ok {w : World} {b m : Nat} {D : Tb} (h : TblAt w b m D) : Calls Try.prog 17 #[.pointer (some ⟨b, 0, none⟩)] w fun e w' => ∃ c mc, e = .returned (.pointer (some ⟨c, 0, none⟩)) ∧ TblAt w' c mc D ∧ w.heap.size ≤ c ∧ w.heap.size ≤ mc ∧ Below w.heap.size w w' := by
  go_enter Try.func17, Try.ntmps17
  go_wp2_with fail
  refine (none_live h).mono ?_; rintro e w1 ⟨rfl, k1⟩
  have h1 := h.step k1
  have c0 := h1.cell
  have z1 := k1.size
  go_wp2_with fail
  refine (clone_calls h1.mp).mono ?_; rintro e w2 ⟨rfl, hM, o, rfl⟩
  go_wp2_with fail
  go_ret
  exact ⟨_, _, rfl, ⟨Blk.newAt _ _ _ (by simp), hM.alloc _⟩, by omega, by omega, k1.trans ((((Below.refl _ w1).alloc (Nat.le_refl _) _).alloc (by simp) _).mono z1)⟩
theorem Copy_none {w : World} {p : Option Addr} (h : NoTb w p) : Calls Try.prog 17 #[.pointer p] w fun e w' => e = .returned (.pointer none) ∧ Below w.heap.size w w' := by
  go_enter Try.func17, Try.ntmps17
  go_wp2_with fail
  refine (none_no h).mono ?_; rintro e w1 ⟨rfl, k1⟩
  go_wp2_with fail
  go_ret
  exact ⟨rfl, k1⟩
end Go.Proofs.Ytchepkihlnpfeaa
