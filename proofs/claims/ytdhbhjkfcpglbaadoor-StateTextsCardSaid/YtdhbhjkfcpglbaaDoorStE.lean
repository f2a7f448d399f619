/-
  Package state: Move, Count, Same. Conditions: sheets of fewer than a million slots.
-/
import Derived.Test.YtdhbhjkfcpglbaaDoorStD
import Derived.StillTailTactics
import Derived.Deep.RegionHeld
import Derived.Laws.EntriesVeiled
namespace Go.Proofs.YtdhbhjkfcpglbaaDoor
open Go.RowKit
attribute [local go_sem] Oper.semAt_some
set_option maxHeartbeats 4000000
set_option maxRecDepth 8000

def movErr (l : List Int) (i to : Int) : Int := if isSt to = false then 2 else if inI l.length i = false then 4 else if mayI (getI l i) to = false then 240 else 0
def movVal (l : List Int) (i to : Int) : Int := if movErr l i to = 0 then getI l i else 0
def movL (l : List Int) (i to : Int) : List Int := if movErr l i to = 0 then l.set i.toNat to else l
theorem movL_len (l : List Int) (i to : Int) : (movL l i to).length = l.length := by unfold movL; split <;> simp
theorem Move_none {w : World} {p : Option Addr} (h : NoSh w p) (i to : Int) : Calls Tryd.prog 16 #[.pointer p, .int .i64 i, .int .i64 to] w fun e w' => e = .returned (.tuple #[.int .i64 0, .int .i64 1]) ∧ w = w' := by
  go_enter Tryd.func16, Tryd.ntmps16
  go_wp2_with fail
  refine wp_scope_fwd 0 rfl ?_
  go_wp2_with (first | go_step3 | rw [fwd_goto] | rw [fwd_ret] | rw [Exit.noGoto_ret])
  refine (none_none h).mono ?_; rintro e _ ⟨rfl, rfl⟩
  go_wp2_with (first | go_step3 | rw [fwd_goto] | rw [fwd_ret] | rw [Exit.noGoto_ret])
  go_ret2
  exact ⟨rfl, rfl⟩
structure CelP (p : Addr) (v : Value) (Y : World) : Prop where
  c : Y.cell? p = some v
theorem Move_ok {lo hi : Nat} {w : World} {s : Nat} {l : List Int} (h : ShAt lo hi w s l) (hl : l.length < 1000000) (i to : Int) : Calls Tryd.prog 16 #[.pointer (some ⟨s, 0, none⟩), .int .i64 i, .int .i64 to] w fun e w' =>
    e = .returned (.tuple #[.int .i64 (movVal l i to), .int .i64 (movErr l i to)]) ∧ ShAt lo hi w' s (movL l i to) ∧ Tur lo hi w w' := by
  have hB := Blk.new w #[.int .i64 to] 23
  obtain ⟨w1, hw1⟩ : ∃ w1, w.alloc (.cells #[.int .i64 to] 23) = w1 := ⟨_, rfl⟩
  rw [hw1] at hB
  have k1 : Below w.heap.size w w1 := by rw [← hw1]; exact (Below.refl _ w).alloc (Nat.le_refl _) _
  have h1 := h.step k1
  obtain ⟨a, cap, c0, c1, hr, hbk⟩ := h1.open
  have hT : Tur lo hi w w1 := .of_below k1
  cases hs : isSt to with
  | false =>
    have e1 : movErr l i to = 2 := by unfold movErr; rw [if_pos hs]
    have e2 : movVal l i to = 0 := by unfold movVal; rw [e1]; rfl
    have e3 : movL l i to = l := by unfold movL; rw [e1]; rfl
    rw [e1, e2, e3]
    have HS := Lib.hid hs
    clear e1 e2 e3 hs hr hbk
    go_enter Tryd.func16, Tryd.ntmps16
    go_wp2_with fail
    refine wp_scope_fwd 0 rfl ?_
    go_wp2_with (first | go_step3 | rw [fwd_goto] | rw [fwd_ret] | rw [Exit.noGoto_ret])
    refine (none_live h).mono ?_; rintro e _ ⟨rfl, rfl⟩
    go_wp2_with (first | go_step3 | rw [fwd_goto] | rw [fwd_ret] | rw [Exit.noGoto_ret])
    refine (right_one hB).mono ?_; rintro e _ ⟨rfl, rfl⟩
    rw [HS.out]
    go_wp2_with (first | go_step3 | rw [fwd_goto] | rw [fwd_ret] | rw [Exit.noGoto_ret])
    go_ret2
    exact ⟨rfl, h1, hT⟩
  | true =>
  cases hi9 : inI l.length i with
  | false =>
    have e1 : movErr l i to = 4 := by unfold movErr; rw [hs, hi9]; rfl
    have e2 : movVal l i to = 0 := by unfold movVal; rw [e1]; rfl
    have e3 : movL l i to = l := by unfold movL; rw [e1]; rfl
    rw [e1, e2, e3]
    have HS := Lib.hid hs
    have HI := Lib.hid hi9
    clear e1 e2 e3 hs hr hbk hi9
    go_enter Tryd.func16, Tryd.ntmps16
    go_wp2_with fail
    refine wp_scope_fwd 0 rfl ?_
    go_wp2_with (first | go_step3 | rw [fwd_goto] | rw [fwd_ret] | rw [Exit.noGoto_ret])
    refine (none_live h).mono ?_; rintro e _ ⟨rfl, rfl⟩
    go_wp2_with (first | go_step3 | rw [fwd_goto] | rw [fwd_ret] | rw [Exit.noGoto_ret])
    refine (right_one hB).mono ?_; rintro e _ ⟨rfl, rfl⟩
    rw [HS.out]
    go_wp2_with (first | go_step3 | rw [fwd_goto] | rw [fwd_ret] | rw [Exit.noGoto_ret])
    refine (has_calls _ _ _ _ _).mono ?_; rintro e _ ⟨rfl, rfl⟩
    rw [HI.out]
    go_wp2_with (first | go_step3 | rw [fwd_goto] | rw [fwd_ret] | rw [Exit.noGoto_ret])
    go_ret2
    exact ⟨rfl, h1, hT⟩
  | true =>
  obtain ⟨k, rfl, hk⟩ := inI_true hi9
  obtain ⟨b, off, rfl, _, q⟩ := hr.geti k hk
  obtain ⟨x, hx⟩ : ∃ x, l[k] = x := ⟨_, rfl⟩
  have hgx : getI l k = x := by rw [getI_at hk, hx]
  rw [hx] at q
  have i0 : (0 : Int) ≤ k := by omega
  have i1 : (k : Int) < l.length := by omega
  have HS := Lib.hid hs
  have HI := Lib.hid hi9
  cases hm : mayI x to with
  | false =>
    have e1 : movErr l k to = 240 := by unfold movErr; rw [hs, hi9, hgx, hm]; rfl
    have e2 : movVal l k to = 0 := by unfold movVal; rw [e1]; rfl
    have e3 : movL l k to = l := by unfold movL; rw [e1]; rfl
    rw [e1, e2, e3]
    have HM := Lib.hid hm
    clear e1 e2 e3 hs hr hbk hi9 hm hx hgx
    go_enter Tryd.func16, Tryd.ntmps16
    go_wp2_with fail
    refine wp_scope_fwd 0 rfl ?_
    go_wp2_with (first | go_step3 | rw [fwd_goto] | rw [fwd_ret] | rw [Exit.noGoto_ret])
    refine (none_live h).mono ?_; rintro e _ ⟨rfl, rfl⟩
    go_wp2_with (first | go_step3 | rw [fwd_goto] | rw [fwd_ret] | rw [Exit.noGoto_ret])
    refine (right_one hB).mono ?_; rintro e _ ⟨rfl, rfl⟩
    rw [HS.out]
    go_wp2_with (first | go_step3 | rw [fwd_goto] | rw [fwd_ret] | rw [Exit.noGoto_ret])
    refine (has_calls _ _ _ _ _).mono ?_; rintro e _ ⟨rfl, rfl⟩
    rw [HI.out]
    go_wp2_with (first | go_step3 | rw [fwd_goto] | rw [fwd_ret] | rw [Exit.noGoto_ret])
    refine (May_ok x to w1).mono ?_; rintro e w2 ⟨rfl, k2⟩
    rw [HS.out, HM.out]
    go_wp2_with (first | go_step3 | rw [fwd_goto] | rw [fwd_ret] | rw [Exit.noGoto_ret])
    go_ret2
    exact ⟨rfl, h1.step k2, hT.trans (.of_below k2)⟩
  | true =>
    have hbs : b ≠ s := (hbk b off l.length cap rfl (by omega)).2.2
    have e1 : movErr l k to = 0 := by unfold movErr; rw [hs, hi9, hgx, hm]; rfl
    have e2 : movVal l k to = x := by unfold movVal; rw [e1, if_pos rfl, hgx]
    have e3 : movL l k to = l.set k to := by unfold movL; rw [e1, if_pos rfl, Int.toNat_natCast]
    rw [e1, e2, e3]
    have HM := Lib.hid hm
    clear e1 e2 e3 hs hr hbk hi9 hm hx hgx
    go_enter Tryd.func16, Tryd.ntmps16
    go_wp2_with fail
    refine wp_scope_fwd 0 rfl ?_
    go_wp2_with (first | go_step3 | rw [fwd_goto] | rw [fwd_ret] | rw [Exit.noGoto_ret])
    refine (none_live h).mono ?_; rintro e _ ⟨rfl, rfl⟩
    go_wp2_with (first | go_step3 | rw [fwd_goto] | rw [fwd_ret] | rw [Exit.noGoto_ret])
    refine (right_one hB).mono ?_; rintro e _ ⟨rfl, rfl⟩
    rw [HS.out]
    go_wp2_with (first | go_step3 | rw [fwd_goto] | rw [fwd_ret] | rw [Exit.noGoto_ret])
    refine (has_calls _ _ _ _ _).mono ?_; rintro e _ ⟨rfl, rfl⟩
    rw [HI.out]
    go_wp2_with (first | go_step3 | rw [fwd_goto] | rw [fwd_ret] | rw [Exit.noGoto_ret])
    refine (May_ok x to w1).mono ?_; rintro e w2 ⟨rfl, k2⟩
    rw [HS.out, HM.out]
    have h2 := h1.step k2
    have d0 : w2.cell? ⟨s, 0, none⟩ = some (.slice (some ⟨b, off, none⟩) l.length cap) := (k2.cell (p := ⟨s, 0, none⟩) h1.lt).trans c0
    have dq : w2.cell? ⟨b, off + k, none⟩ = some (.int .i64 x) := (k2.cell (p := ⟨b, off + k, none⟩) (World.block_lt_of_cell? w1 _ q)).trans q
    obtain ⟨g1, g2, g3⟩ := h2.set hk d0 to
    have hT2 := hT.trans (.of_below k2)
    have G1 := Lib.hid g1
    have G3 := Lib.hid g3
    clear g1 g3 c0 q
    go_wp2_with (first | go_step3 | rw [fwd_goto] | rw [fwd_ret] | rw [Exit.noGoto_ret])
    refine wp_onlyN ?_
    refine wp_region_held_drew (S := CelP ⟨s, 0, none⟩ (.slice (some ⟨b, off, none⟩) l.length cap)) (by kernel_rfl) ⟨d0⟩ (fun hHeld => ?_)
    have dq' : w2.drew.cell? ⟨b, off + k, none⟩ = some (.int .i64 x) := dq
    have gf : w2.drew.frozen? ⟨b, off + k, none⟩ = false := g2
    refine wpAnyH_take (i := 0) (v := ?_) rfl (by kernel_rfl) (by kernel_rfl) (by kernel_rfl) (fun _ _ _ h => h) (Or.inl ⟨by rfl, ?_⟩) (by assumption) ?_
    rotate_left
    · (intro Y hSw; (try dsimp only at hSw); obtain ⟨hS1⟩ := hSw; go_simp; try with_reducible rfl)
    try simp only [Act.put, List.getElem_toArray, List.getElem_cons_zero, List.getElem_cons_succ, List.setIfInBounds_toArray, List.set_cons_zero, List.set_cons_succ]
    refine wpAnyH_take (i := 1) (v := ?_) rfl (by kernel_rfl) (by kernel_rfl) (by kernel_rfl) (fun _ _ _ h => h) (Or.inl ⟨by rfl, ?_⟩) (by assumption) ?_
    rotate_left
    · (intro Y hSw; (try dsimp only at hSw); obtain ⟨hS1⟩ := hSw; go_simp; try with_reducible rfl)
    try simp only [Act.put, List.getElem_toArray, List.getElem_cons_zero, List.getElem_cons_succ, List.setIfInBounds_toArray, List.set_cons_zero, List.set_cons_succ]
    refine wpAnyH_take (i := 2) (v := ?_) rfl (by kernel_rfl) (by kernel_rfl) (by kernel_rfl) (fun _ _ _ h => h) (Or.inl ⟨by rfl, ?_⟩) (by assumption) ?_
    rotate_left
    · (intro Y hSw; (try dsimp only at hSw); obtain ⟨hS1⟩ := hSw; go_simp; try with_reducible rfl)
    try simp only [Act.put, List.getElem_toArray, List.getElem_cons_zero, List.getElem_cons_succ, List.setIfInBounds_toArray, List.set_cons_zero, List.set_cons_succ]
    refine wpAnyH_take (i := 3) (v := ?_) rfl (by kernel_rfl) (by kernel_rfl) (by kernel_rfl) (fun _ _ _ h => h) (Or.inl ⟨by rfl, ?_⟩) (by assumption) ?_
    rotate_left
    · (intro Y hSw; (try dsimp only at hSw); obtain ⟨hS1⟩ := hSw; go_simp; try with_reducible rfl)
    try simp only [Act.put, List.getElem_toArray, List.getElem_cons_zero, List.getElem_cons_succ, List.setIfInBounds_toArray, List.set_cons_zero, List.set_cons_succ]
    refine wpAnyH_take (i := 4) (v := ?_) rfl (by kernel_rfl) (by kernel_rfl) (by kernel_rfl) (fun _ _ _ h => h) (Or.inl ⟨by rfl, ?_⟩) (by assumption) ?_
    rotate_left
    · (intro Y hSw; (try dsimp only at hSw); obtain ⟨hS1⟩ := hSw; go_simp; try with_reducible rfl)
    try simp only [Act.put, List.getElem_toArray, List.getElem_cons_zero, List.getElem_cons_succ, List.setIfInBounds_toArray, List.set_cons_zero, List.set_cons_succ]
    refine wpAnyH_take (i := 5) (v := ?_) rfl (by kernel_rfl) (by kernel_rfl) (by kernel_rfl) (fun _ _ _ h => h) (Or.inl ⟨by rfl, ?_⟩) (by assumption) ?_
    rotate_left
    · (intro Y hSw; (try dsimp only at hSw); obtain ⟨hS1⟩ := hSw; go_simp; try with_reducible rfl)
    try simp only [Act.put, List.getElem_toArray, List.getElem_cons_zero, List.getElem_cons_succ, List.setIfInBounds_toArray, List.set_cons_zero, List.set_cons_succ]
    refine wpAnyH_take (i := 6) (v := ?_) rfl (by kernel_rfl) (by kernel_rfl) (by kernel_rfl) (fun _ _ _ h => h) (Or.inl ⟨by rfl, ?_⟩) (by assumption) ?_
    rotate_left
    · (intro Y hSw; (try dsimp only at hSw); obtain ⟨hS1⟩ := hSw; go_simp; try with_reducible rfl)
    try simp only [Act.put, List.getElem_toArray, List.getElem_cons_zero, List.getElem_cons_succ, List.setIfInBounds_toArray, List.set_cons_zero, List.set_cons_succ]
    refine wpAnyH_take (i := 7) (v := ?_) rfl (by kernel_rfl) (by kernel_rfl) (by kernel_rfl) (fun _ _ _ h => h) (Or.inl ⟨by rfl, ?_⟩) (by assumption) ?_
    rotate_left
    · (intro Y hSw; (try dsimp only at hSw); obtain ⟨hS1⟩ := hSw; go_simp; try with_reducible rfl)
    try simp only [Act.put, List.getElem_toArray, List.getElem_cons_zero, List.getElem_cons_succ, List.setIfInBounds_toArray, List.set_cons_zero, List.set_cons_succ]
    refine wpAnyH_take (i := 8) (v := ?_) rfl (by kernel_rfl) (by kernel_rfl) (by kernel_rfl) (fun _ _ _ h => h) (Or.inl ⟨by rfl, ?_⟩) (by assumption) ?_
    rotate_left
    · (intro Y hSw; (try dsimp only at hSw); obtain ⟨hS1⟩ := hSw; go_simp; try with_reducible rfl)
    try simp only [Act.put, List.getElem_toArray, List.getElem_cons_zero, List.getElem_cons_succ, List.setIfInBounds_toArray, List.set_cons_zero, List.set_cons_succ]
    refine wpAnyH_take (i := 9) (v := ?_) rfl (by kernel_rfl) (by kernel_rfl) (by kernel_rfl) (fun _ _ _ h => h) (Or.inl ⟨by rfl, ?_⟩) (by assumption) ?_
    rotate_left
    · (intro Y hSw; (try dsimp only at hSw); obtain ⟨hS1⟩ := hSw; go_simp; try with_reducible rfl)
    try simp only [Act.put, List.getElem_toArray, List.getElem_cons_zero, List.getElem_cons_succ, List.setIfInBounds_toArray, List.set_cons_zero, List.set_cons_succ]
    refine wpAnyH_take (i := 10) (v := ?_) rfl (by kernel_rfl) (by kernel_rfl) (by kernel_rfl) (fun _ _ _ h => h) (Or.inl ⟨by rfl, ?_⟩) (by assumption) ?_
    rotate_left
    · (intro Y hSw; (try dsimp only at hSw); obtain ⟨hS1⟩ := hSw; go_simp; try with_reducible rfl)
    try simp only [Act.put, List.getElem_toArray, List.getElem_cons_zero, List.getElem_cons_succ, List.setIfInBounds_toArray, List.set_cons_zero, List.set_cons_succ]
    refine wpAnyH_take (i := 12) (v := ?_) rfl (by kernel_rfl) (by kernel_rfl) (by kernel_rfl) (fun _ _ _ h => h) (Or.inl ⟨by rfl, ?_⟩) (by assumption) ?_
    rotate_left
    · (intro Y hSw; (try dsimp only at hSw); obtain ⟨hS1⟩ := hSw; go_simp; try with_reducible rfl)
    try simp only [Act.put, List.getElem_toArray, List.getElem_cons_zero, List.getElem_cons_succ, List.setIfInBounds_toArray, List.set_cons_zero, List.set_cons_succ]
    refine wpAnyH_ready (rs := [11]) (by kernel_rfl) (by simp) ?_
    refine AllReadyH.cons rfl (fun K hK => ?_) AllReadyH.nil
    go_simp
    refine hK.out _ _ (⟨d0⟩) (fun hHeld => ?_)
    clear hK K
    try simp only [Act.put, List.getElem_toArray, List.getElem_cons_zero, List.getElem_cons_succ, List.setIfInBounds_toArray, List.set_cons_zero, List.set_cons_succ]
    refine wpAnyH_take (i := 13) (v := ?_) rfl (by kernel_rfl) (by kernel_rfl) (by kernel_rfl) (fun _ _ _ h => h) (Or.inl ⟨by rfl, ?_⟩) (by assumption) ?_
    rotate_left
    · (intro Y hSw; (try dsimp only at hSw); obtain ⟨hS1⟩ := hSw; go_simp; try with_reducible rfl)
    try simp only [Act.put, List.getElem_toArray, List.getElem_cons_zero, List.getElem_cons_succ, List.setIfInBounds_toArray, List.set_cons_zero, List.set_cons_succ]
    refine wpAnyH_take (i := 14) (v := ?_) rfl (by kernel_rfl) (by kernel_rfl) (by kernel_rfl) (fun _ _ _ h => h) (Or.inl ⟨by rfl, ?_⟩) (by assumption) ?_
    rotate_left
    · (intro Y hSw; (try dsimp only at hSw); obtain ⟨hS1⟩ := hSw; go_simp; try with_reducible rfl)
    try simp only [Act.put, List.getElem_toArray, List.getElem_cons_zero, List.getElem_cons_succ, List.setIfInBounds_toArray, List.set_cons_zero, List.set_cons_succ]
    refine wpAnyH_ready (rs := [15]) (by kernel_rfl) (by simp) ?_
    refine AllReadyH.cons rfl (fun K hK => ?_) AllReadyH.nil
    go_simp
    refine hK.out _ _ (⟨(World.cell?_setCell_far w2 ⟨b, off + k, none⟩ ⟨s, 0, none⟩ _ (by show b ≠ s; exact hbs)).trans d0⟩) (fun hHeld => ?_)
    clear hK K
    try simp only [Act.put, List.getElem_toArray, List.getElem_cons_zero, List.getElem_cons_succ, List.setIfInBounds_toArray, List.set_cons_zero, List.set_cons_succ]
    refine wpAnyH_done (by kernel_rfl) ?_ _
    rw [onlyN_normal]
    go_wp2_with (first | go_step3 | rw [fwd_goto] | rw [fwd_ret] | rw [Exit.noGoto_ret])
    go_ret2
    exact ⟨rfl, G1.out.step (Below.refl _ _).drew, (hT2.trans G3.out).trans (.of_below (Below.refl _ _).drew)⟩
theorem count_calls (b : Nat) (x : Int) (w : World) (hc : w.cell? ⟨b, 0, none⟩ = some (.int .i64 x)) (y : Int) : Calls Tryd.prog 37 #[.int .i64 y, .pointer (some ⟨b, 0, none⟩)] w fun e w' => e = .returned (.bool (x == y)) ∧ w = w' := by
  go_enter Tryd.func37, Tryd.ntmps37
  go_wp2_with fail
  go_ret
  exact ⟨rfl, rfl⟩
def cntI (l : List Int) (x : Int) : Nat := l.countP fun y => x == y
theorem counted_calls (b : Nat) (x : Int) (w : World) (hc : w.cell? ⟨b, 0, none⟩ = some (.int .i64 x)) (v : Value) (l : List Int) (B : Nat) (hl : l.length < 1000000) (hv : RowAt B w v l.length (intVals .i64 l)) :
    Calls Tryd.prog 36 #[v, .func (.func 37) #[] #[.pointer (some ⟨b, 0, none⟩)]] w fun e w' => e = .returned (.int .i64 (cntI l x)) ∧ w = w' := by
  have HR := Lib.hid hv
  obtain ⟨a, cap, rfl, _⟩ := hv.len
  obtain ⟨d, hd⟩ : ∃ d, cntI l x = d := ⟨_, rfl⟩
  rw [hd]
  have HD := Lib.hid hd
  clear hv hd
  go_enter Tryd.func36, Tryd.ntmps36
  go_wp2_with fail
  go_loopw [4, 9] (fun v i wr => ∃ k : Nat, k ≤ l.length ∧ i = .int .i64 k ∧ v = .int .i64 (cntI (l.take k) x) ∧ w = wr) (fun _ i _ => l.length - (intOf i).toNat)
  case atStart => exact ⟨0, by omega, rfl, rfl, rfl⟩
  case round =>
    obtain ⟨k, hk, rfl, rfl, rfl⟩ := hrel
    by_cases hlt : k < l.length
    · obtain ⟨b', off, rfl, _, q⟩ := HR.out.geti k hlt
      have hs : cntI (l.take (k + 1)) x = cntI (l.take k) x + if x == l[k] then 1 else 0 := by
        unfold cntI
        rw [List.take_succ_eq_append_getElem hlt, List.countP_append]
        simp
      have hcl : cntI (l.take k) x ≤ k := by
        unfold cntI
        have := List.countP_le_length (p := fun y => x == y) (l := l.take k)
        rw [List.length_take] at this
        omega
      generalize cntI (l.take k) x = m at hs hcl
      generalize l[k] = y at q hs
      have i0 : (0 : Int) ≤ k := by omega
      have i1 : (k : Int) < l.length := by omega
      have HS := Lib.hid hs
      clear hs
      go_wp2_with fail
      refine (count_calls b x w hc y).mono ?_; rintro e _ ⟨rfl, rfl⟩
      cases hxy : x == y with
      | true =>
        have HX := Lib.hid hxy
        clear hxy
        go_wp2_with fail
        exact ⟨⟨k + 1, by omega, by go_num, by rw [HS.out, HX.out]; go_num, trivial⟩, by simp [intOf]; omega⟩
      | false =>
        have HX := Lib.hid hxy
        clear hxy
        go_wp2_with fail
        exact ⟨⟨k + 1, by omega, by go_num, by rw [HS.out, HX.out]; rfl, trivial⟩, by simp [intOf]; omega⟩
    · obtain rfl : k = l.length := by omega
      have hdd : cntI (l.take l.length) x = d := by rw [List.take_length]; exact HD.out
      rw [hdd]
      clear hdd
      go_wp2_with fail
      go_ret
      exact ⟨rfl, rfl⟩
theorem Count_none {w : World} {p : Option Addr} (h : NoSh w p) (x : Int) : Calls Tryd.prog 17 #[.pointer p, .int .i64 x] w fun e w' => e = .returned (.int .i64 0) ∧ Below w.heap.size w w' := by
  have k1 : Below w.heap.size w (w.alloc (.cells #[.int .i64 x] 23)) := (Below.refl _ w).alloc (Nat.le_refl _) _
  go_enter Tryd.func17, Tryd.ntmps17
  go_wp2_with fail
  refine (none_none (h.step k1)).mono ?_; rintro e _ ⟨rfl, rfl⟩
  go_wp2_with fail
  go_ret
  exact ⟨rfl, k1⟩
theorem Count_ok {lo hi : Nat} {w : World} {s : Nat} {l : List Int} (h : ShAt lo hi w s l) (hl : l.length < 1000000) (x : Int) : Calls Tryd.prog 17 #[.pointer (some ⟨s, 0, none⟩), .int .i64 x] w fun e w' => e = .returned (.int .i64 (cntI l x)) ∧ Below w.heap.size w w' := by
  obtain ⟨w1, hw1⟩ : ∃ w1, w.alloc (.cells #[.int .i64 x] 23) = w1 := ⟨_, rfl⟩
  have k1 : Below w.heap.size w w1 := by rw [← hw1]; exact (Below.refl _ w).alloc (Nat.le_refl _) _
  have hB : Blk w1 w.heap.size #[.int .i64 x] 23 := by rw [← hw1]; exact Blk.new w _ _
  have hc := hB.cell 0 rfl
  obtain ⟨a, cap, c0, c1, hr, _⟩ := (h.step k1).open
  have HR := Lib.hid hr
  clear hr
  go_enter Tryd.func17, Tryd.ntmps17
  go_wp2_with fail
  refine (none_live (h.step k1)).mono ?_; rintro e _ ⟨rfl, rfl⟩
  go_wp2_with fail
  refine (counted_calls _ x w1 hc _ l hi hl HR.out).mono ?_; rintro e _ ⟨rfl, rfl⟩
  go_wp2_with fail
  go_ret
  exact ⟨rfl, k1⟩
theorem equal_calls (v1 v2 : Value) (l1 l2 : List Int) (B1 B2 : Nat) (w : World) (hl1 : l1.length < 1000000) (hl2 : l2.length < 1000000) (hv1 : RowAt B1 w v1 l1.length (intVals .i64 l1)) (hv2 : RowAt B2 w v2 l2.length (intVals .i64 l2)) (hB1 : B1 ≤ w.heap.size) (hB2 : B2 ≤ w.heap.size) :
    Calls Tryd.prog 42 #[v1, v2] w fun e w' => e = .returned (.bool (decide (l1 = l2))) ∧ Below w.heap.size w w' := by
  obtain ⟨d, hd⟩ : ∃ d, decide (l1 = l2) = d := ⟨_, rfl⟩
  rw [hd]
  have HD := Lib.hid hd
  have H1 := Lib.hid hv1
  have H2 := Lib.hid hv2
  obtain ⟨a1, c1, rfl, _⟩ := hv1.len
  obtain ⟨a2, c2, rfl, _⟩ := hv2.len
  clear hd hv1 hv2
  by_cases he : l1.length = l2.length
  · have hne : ((l1.length : Int) != l2.length) = false := by rw [he]; simp
    have HE := Lib.hid he
    clear he
    go_enter Tryd.func42, Tryd.ntmps42
    go_wp2_with fail
    go_loopw [13] (fun i wr => ∃ k : Nat, k ≤ l1.length ∧ i = .int .i64 k ∧ (∀ j (h1 : j < l1.length) (h2 : j < l2.length), j < k → l1[j] = l2[j]) ∧ Below w.heap.size w wr) (fun i _ => l1.length - (intOf i).toNat)
    case atStart => exact ⟨0, by omega, rfl, fun j _ _ hj => by omega, Below.refl _ _⟩
    case round =>
      obtain ⟨k, hk, rfl, hn, hb⟩ := hrel
      have HN := Lib.hid hn
      clear hn
      by_cases hlt : k < l1.length
      · have hlt2 : k < l2.length := by rw [← HE.out]; exact hlt
        obtain ⟨b1, o1, rfl, _, q1⟩ := (H1.out.below hb hB1).geti k hlt
        obtain ⟨b2, o2, rfl, _, q2⟩ := (H2.out.below hb hB2).geti k hlt2
        have i0 : (0 : Int) ≤ k := by omega
        have i1 : (k : Int) < l1.length := by omega
        have i2 : (k : Int) < l2.length := by omega
        by_cases hx : l1[k] = l2[k]
        · have hx' : (l1[k] != l2[k]) = false := by simpa using hx
          have HX := Lib.hid hx
          clear hx
          go_wp2_with fail
          go_quiet (fail)
          go_wp2_with fail
          refine ⟨⟨k + 1, by omega, by go_num, fun j h1 h2 hj => ?_, hb.drewN _⟩, by simp [intOf]; omega⟩
          by_cases e : j = k
          · subst e; exact HX.out
          · exact HN.out j h1 h2 (by omega)
        · have hx' : (l1[k] != l2[k]) = true := by simpa using hx
          have hdf : d = false := by
            rw [← HD.out, decide_eq_false_iff_not]
            intro e
            exact hx (by subst e; rfl)
          subst hdf
          clear hx
          go_wp2_with fail
          go_quiet (fail)
          go_wp2_with fail
          go_ret
          exact ⟨rfl, hb.drewN _⟩
      · obtain rfl : k = l1.length := by omega
        have hdt : d = true := by
          rw [← HD.out, decide_eq_true_eq]
          exact List.ext_getElem HE.out fun j h1 h2 => HN.out j h1 h2 h1
        subst hdt
        go_wp2_with fail
        go_ret
        exact ⟨rfl, hb⟩
  · have hne : ((l1.length : Int) != l2.length) = true := by simp; omega
    have hdf : d = false := by
      rw [← HD.out, decide_eq_false_iff_not]
      intro e
      exact he (by rw [e])
    subst hdf
    clear he
    go_enter Tryd.func42, Tryd.ntmps42
    go_wp2_with fail
    go_ret
    exact ⟨rfl, Below.refl _ _⟩
theorem Same_nn {w : World} {p q : Option Addr} (hS : NoSh w p) (hT : NoSh w q) : Calls Tryd.prog 20 #[.pointer p, .pointer q] w fun e w' => e = .returned (.bool true) ∧ w = w' := by
  go_enter Tryd.func20, Tryd.ntmps20
  go_wp2_with fail
  refine (none_none hS).mono ?_; rintro e _ ⟨rfl, rfl⟩
  go_wp2_with fail
  refine (none_none hS).mono ?_; rintro e _ ⟨rfl, rfl⟩
  go_wp2_with fail
  refine (none_none hT).mono ?_; rintro e _ ⟨rfl, rfl⟩
  go_wp2_with fail
  go_ret
  exact ⟨rfl, rfl⟩
theorem Same_ln {lo hi : Nat} {w : World} {s : Nat} {l : List Int} {q : Option Addr} (hS : ShAt lo hi w s l) (hT : NoSh w q) : Calls Tryd.prog 20 #[.pointer (some ⟨s, 0, none⟩), .pointer q] w fun e w' => e = .returned (.bool false) ∧ w = w' := by
  go_enter Tryd.func20, Tryd.ntmps20
  go_wp2_with fail
  refine (none_live hS).mono ?_; rintro e _ ⟨rfl, rfl⟩
  go_wp2_with fail
  refine (none_none hT).mono ?_; rintro e _ ⟨rfl, rfl⟩
  go_wp2_with fail
  refine (none_live hS).mono ?_; rintro e _ ⟨rfl, rfl⟩
  go_wp2_with fail
  go_ret
  exact ⟨rfl, rfl⟩
theorem Same_nl {lo hi : Nat} {w : World} {s : Nat} {l : List Int} {q : Option Addr} (hS : ShAt lo hi w s l) (hT : NoSh w q) : Calls Tryd.prog 20 #[.pointer q, .pointer (some ⟨s, 0, none⟩)] w fun e w' => e = .returned (.bool false) ∧ w = w' := by
  go_enter Tryd.func20, Tryd.ntmps20
  go_wp2_with fail
  refine (none_none hT).mono ?_; rintro e _ ⟨rfl, rfl⟩
  go_wp2_with fail
  refine (none_none hT).mono ?_; rintro e _ ⟨rfl, rfl⟩
  go_wp2_with fail
  refine (none_live hS).mono ?_; rintro e _ ⟨rfl, rfl⟩
  go_wp2_with fail
  go_ret
  exact ⟨rfl, rfl⟩
structure TwoP (p q : Addr) (u v : Value) (Y : World) : Prop where
  c : Y.cell? p = some u
  d : Y.cell? q = some v
theorem Same_ok {lo hi lo' hi' : Nat} {w : World} {s t : Nat} {l m : List Int} (hS : ShAt lo hi w s l) (hT : ShAt lo' hi' w t m) (hl : l.length < 1000000) (hm : m.length < 1000000) : Calls Tryd.prog 20 #[.pointer (some ⟨s, 0, none⟩), .pointer (some ⟨t, 0, none⟩)] w fun e w' => e = .returned (.bool (decide (l = m))) ∧ Below w.heap.size w w' := by
  obtain ⟨a, cap, c0, _, hr, _⟩ := hS.open
  obtain ⟨a', cap', c0', _, hr', _⟩ := hT.open
  have HR := Lib.hid hr
  have HR' := Lib.hid hr'
  have z1 := hS.2.2.1
  have z2 := hT.2.2.1
  have s1 := hS.lt
  have t1 := hT.lt
  obtain ⟨d, hd⟩ : ∃ d, decide (l = m) = d := ⟨_, rfl⟩
  rw [hd]
  have HD := Lib.hid hd
  clear hr hr' hd
  go_enter Tryd.func20, Tryd.ntmps20
  go_wp2_with fail
  refine (none_live hS).mono ?_; rintro e _ ⟨rfl, rfl⟩
  go_wp2_with fail
  refine (none_live hT).mono ?_; rintro e _ ⟨rfl, rfl⟩
  go_wp2_with fail
  refine wp_region_held_drew (S := TwoP ⟨s, 0, none⟩ ⟨t, 0, none⟩ (.slice a l.length cap) (.slice a' m.length cap')) (by kernel_rfl) ⟨c0, c0'⟩ (fun hHeld => ?_)
  refine wpAnyH_take (i := 0) (v := ?_) rfl (by kernel_rfl) (by kernel_rfl) (by kernel_rfl) (fun _ _ _ h => h) (Or.inl ⟨by rfl, ?_⟩) (by assumption) ?_
  rotate_left
  · (intro Y hSw; (try dsimp only at hSw); obtain ⟨hS1, hS2⟩ := hSw; go_simp; try with_reducible rfl)
  try simp only [Act.put, List.getElem_toArray, List.getElem_cons_zero, List.getElem_cons_succ, List.setIfInBounds_toArray, List.set_cons_zero, List.set_cons_succ]
  refine wpAnyH_take (i := 1) (v := ?_) rfl (by kernel_rfl) (by kernel_rfl) (by kernel_rfl) (fun _ _ _ h => h) (Or.inl ⟨by rfl, ?_⟩) (by assumption) ?_
  rotate_left
  · (intro Y hSw; (try dsimp only at hSw); obtain ⟨hS1, hS2⟩ := hSw; go_simp; try with_reducible rfl)
  try simp only [Act.put, List.getElem_toArray, List.getElem_cons_zero, List.getElem_cons_succ, List.setIfInBounds_toArray, List.set_cons_zero, List.set_cons_succ]
  refine wpAnyH_take (i := 2) (v := ?_) rfl (by kernel_rfl) (by kernel_rfl) (by kernel_rfl) (fun _ _ _ h => h) (Or.inl ⟨by rfl, ?_⟩) (by assumption) ?_
  rotate_left
  · (intro Y hSw; (try dsimp only at hSw); obtain ⟨hS1, hS2⟩ := hSw; go_simp; try with_reducible rfl)
  try simp only [Act.put, List.getElem_toArray, List.getElem_cons_zero, List.getElem_cons_succ, List.setIfInBounds_toArray, List.set_cons_zero, List.set_cons_succ]
  refine wpAnyH_take (i := 3) (v := ?_) rfl (by kernel_rfl) (by kernel_rfl) (by kernel_rfl) (fun _ _ _ h => h) (Or.inl ⟨by rfl, ?_⟩) (by assumption) ?_
  rotate_left
  · (intro Y hSw; (try dsimp only at hSw); obtain ⟨hS1, hS2⟩ := hSw; go_simp; try with_reducible rfl)
  try simp only [Act.put, List.getElem_toArray, List.getElem_cons_zero, List.getElem_cons_succ, List.setIfInBounds_toArray, List.set_cons_zero, List.set_cons_succ]
  refine wpAnyH_take (i := 4) (v := ?_) rfl (by kernel_rfl) (by kernel_rfl) (by kernel_rfl) (fun _ _ _ h => h) (Or.inl ⟨by rfl, ?_⟩) (by assumption) ?_
  rotate_left
  · (intro Y hSw; (try dsimp only at hSw); obtain ⟨hS1, hS2⟩ := hSw; go_simp; try with_reducible rfl)
  try simp only [Act.put, List.getElem_toArray, List.getElem_cons_zero, List.getElem_cons_succ, List.setIfInBounds_toArray, List.set_cons_zero, List.set_cons_succ]
  refine wpAnyH_take (i := 5) (v := ?_) rfl (by kernel_rfl) (by kernel_rfl) (by kernel_rfl) (fun _ _ _ h => h) (Or.inl ⟨by rfl, ?_⟩) (by assumption) ?_
  rotate_left
  · (intro Y hSw; (try dsimp only at hSw); obtain ⟨hS1, hS2⟩ := hSw; go_simp; try with_reducible rfl)
  try simp only [Act.put, List.getElem_toArray, List.getElem_cons_zero, List.getElem_cons_succ, List.setIfInBounds_toArray, List.set_cons_zero, List.set_cons_succ]
  refine wpAnyH_take (i := 6) (v := ?_) rfl (by kernel_rfl) (by kernel_rfl) (by kernel_rfl) (fun _ _ _ h => h) (Or.inl ⟨by rfl, ?_⟩) (by assumption) ?_
  rotate_left
  · (intro Y hSw; (try dsimp only at hSw); obtain ⟨hS1, hS2⟩ := hSw; go_simp; try with_reducible rfl)
  try simp only [Act.put, List.getElem_toArray, List.getElem_cons_zero, List.getElem_cons_succ, List.setIfInBounds_toArray, List.set_cons_zero, List.set_cons_succ]
  refine wpAnyH_take (i := 7) (v := ?_) rfl (by kernel_rfl) (by kernel_rfl) (by kernel_rfl) (fun _ _ _ h => h) (Or.inl ⟨by rfl, ?_⟩) (by assumption) ?_
  rotate_left
  · (intro Y hSw; (try dsimp only at hSw); obtain ⟨hS1, hS2⟩ := hSw; go_simp; try with_reducible rfl)
  try simp only [Act.put, List.getElem_toArray, List.getElem_cons_zero, List.getElem_cons_succ, List.setIfInBounds_toArray, List.set_cons_zero, List.set_cons_succ]
  refine wpAnyH_ready (rs := [8]) (by kernel_rfl) (by simp) ?_
  refine AllReadyH.cons rfl (fun K hK => ?_) AllReadyH.nil
  go_simp
  refine (equal_calls _ _ l m hi hi' w.drew hl hm (HR.out.below (Below.refl _ w).drew z1) (HR'.out.below (Below.refl _ w).drew z2) z1 z2).mono ?_; rintro e w1 ⟨rfl, k1⟩
  rw [HD.out]
  go_simp
  refine hK.out _ _ (⟨(k1.cell (p := ⟨s, 0, none⟩) s1).trans c0, (k1.cell (p := ⟨t, 0, none⟩) t1).trans c0'⟩) (fun hHeld => ?_)
  clear hK K
  try simp only [Act.put, List.getElem_toArray, List.getElem_cons_zero, List.getElem_cons_succ, List.setIfInBounds_toArray, List.set_cons_zero, List.set_cons_succ]
  refine wpAnyH_take (i := 9) (v := ?_) rfl (by kernel_rfl) (by kernel_rfl) (by kernel_rfl) (fun _ _ _ h => h) (Or.inl ⟨by rfl, ?_⟩) (by assumption) ?_
  rotate_left
  · (intro Y hSw; (try dsimp only at hSw); obtain ⟨hS1, hS2⟩ := hSw; go_simp; try with_reducible rfl)
  try simp only [Act.put, List.getElem_toArray, List.getElem_cons_zero, List.getElem_cons_succ, List.setIfInBounds_toArray, List.set_cons_zero, List.set_cons_succ]
  refine wpAnyH_done (by kernel_rfl) ?_ _
  go_wp2_with fail
  go_ret
  exact ⟨rfl, (Below.refl _ w).drew.trans k1⟩
end Go.Proofs.YtdhbhjkfcpglbaaDoor
