/-
  Package bits: Copy, Same; marks that may be none. Conditions: at most 4096 places.
-/
import Derived.Test.YtbkegknfmcanaaaDoorBiG
namespace Go.Proofs.YtbkegknfmcanaaaDoor
open Go.RowKit
attribute [local go_sem] Oper.semAt_some
set_option maxHeartbeats 2000000
set_option maxRecDepth 8000

theorem Copy_none {w : World} {p : Option Addr} (h : NoMk w p) : Calls Tryd.prog 25 #[.pointer p] w fun e w' => e = .returned (.pointer none) ∧ w = w' := by
  go_enter Tryd.func25, Tryd.ntmps25
  go_wp2_with fail
  refine (none_none h).mono ?_; rintro e _ ⟨rfl, rfl⟩
  go_wp2_with fail
  go_ret
  exact ⟨rfl, rfl⟩
structure CpyS (s n : Nat) (v : Value) (Y : World) : Prop where
  c0 : Y.cell? ⟨s, 0, none⟩ = some (.int .i64 n)
  c1 : Y.cell? ⟨s, 1, none⟩ = some v
theorem Copy_ok {lo hi : Nat} {w : World} {s : Nat} {L : List Bool} (h : MkAt lo hi w s L) (hl : L.length ≤ 4096) : Calls Tryd.prog 25 #[.pointer (some ⟨s, 0, none⟩)] w fun e w' => ∃ c, e = .returned (.pointer (some ⟨c, 0, none⟩)) ∧ MkAt w.heap.size w'.heap.size w' c L ∧ Below w.heap.size w w' := by
  obtain ⟨a, cap, c0, c1, c2, hr⟩ := h.open
  have hw : nW L.length < 1000000 := by unfold nW; omega
  have HC := Lib.hid (clone_ok (.slice a (nW L.length) cap) (wdsL L) (nW L.length) hi w.drew h.2.2.1 (wdsL_len L) hw (hr.below (Below.refl _ w).drew (Nat.le_refl _)))
  have kd := (Below.refl w.heap.size w).drew
  have hlt := h.lt
  clear hr
  go_enter Tryd.func25, Tryd.ntmps25
  go_wp2_with fail
  refine (none_live h).mono ?_; rintro e _ ⟨rfl, rfl⟩
  go_wp2_with fail
  refine wp_region_held_drew (S := CpyS s L.length (.slice a (nW L.length) cap)) (by kernel_rfl) ⟨c0, c1⟩ (fun hHeld => ?_)
  refine wpAnyH_take (i := 0) (v := ?_) rfl (by kernel_rfl) (by kernel_rfl) (by kernel_rfl) (fun _ _ _ h => h) (Or.inl ⟨by rfl, ?_⟩) (by assumption) ?_
  rotate_left
  · (intro Y hSw; (try dsimp only at hSw); obtain ⟨hS0, hS1⟩ := hSw; go_simp; try with_reducible rfl)
  try simp only [Act.put, List.getElem_toArray, List.getElem_cons_zero, List.getElem_cons_succ, List.setIfInBounds_toArray, List.set_cons_zero, List.set_cons_succ]
  refine wpAnyH_take (i := 1) (v := ?_) rfl (by kernel_rfl) (by kernel_rfl) (by kernel_rfl) (fun _ _ _ h => h) (Or.inl ⟨by rfl, ?_⟩) (by assumption) ?_
  rotate_left
  · (intro Y hSw; (try dsimp only at hSw); obtain ⟨hS0, hS1⟩ := hSw; go_simp; try with_reducible rfl)
  try simp only [Act.put, List.getElem_toArray, List.getElem_cons_zero, List.getElem_cons_succ, List.setIfInBounds_toArray, List.set_cons_zero, List.set_cons_succ]
  refine wpAnyH_take (i := 2) (v := ?_) rfl (by kernel_rfl) (by kernel_rfl) (by kernel_rfl) (fun _ _ _ h => h) (Or.inl ⟨by rfl, ?_⟩) (by assumption) ?_
  rotate_left
  · (intro Y hSw; (try dsimp only at hSw); obtain ⟨hS0, hS1⟩ := hSw; go_simp; try with_reducible rfl)
  try simp only [Act.put, List.getElem_toArray, List.getElem_cons_zero, List.getElem_cons_succ, List.setIfInBounds_toArray, List.set_cons_zero, List.set_cons_succ]
  refine wpAnyH_take (i := 3) (v := ?_) rfl (by kernel_rfl) (by kernel_rfl) (by kernel_rfl) (fun _ _ _ h => h) (Or.inl ⟨by rfl, ?_⟩) (by assumption) ?_
  rotate_left
  · (intro Y hSw; (try dsimp only at hSw); obtain ⟨hS0, hS1⟩ := hSw; go_simp; try with_reducible rfl)
  try simp only [Act.put, List.getElem_toArray, List.getElem_cons_zero, List.getElem_cons_succ, List.setIfInBounds_toArray, List.set_cons_zero, List.set_cons_succ]
  refine wpAnyH_take (i := 4) (v := ?_) rfl (by kernel_rfl) (by kernel_rfl) (by kernel_rfl) (fun _ _ _ h => h) (Or.inl ⟨by rfl, ?_⟩) (by assumption) ?_
  rotate_left
  · (intro Y hSw; (try dsimp only at hSw); obtain ⟨hS0, hS1⟩ := hSw; go_simp; try with_reducible rfl)
  try simp only [Act.put, List.getElem_toArray, List.getElem_cons_zero, List.getElem_cons_succ, List.setIfInBounds_toArray, List.set_cons_zero, List.set_cons_succ]
  refine wpAnyH_take (i := 5) (v := ?_) rfl (by kernel_rfl) (by kernel_rfl) (by kernel_rfl) (fun _ _ _ h => h) (Or.inl ⟨by rfl, ?_⟩) (by assumption) ?_
  rotate_left
  · (intro Y hSw; (try dsimp only at hSw); obtain ⟨hS0, hS1⟩ := hSw; go_simp; try with_reducible rfl)
  try simp only [Act.put, List.getElem_toArray, List.getElem_cons_zero, List.getElem_cons_succ, List.setIfInBounds_toArray, List.set_cons_zero, List.set_cons_succ]
  refine wpAnyH_take (i := 6) (v := ?_) rfl (by kernel_rfl) (by kernel_rfl) (by kernel_rfl) (fun _ _ _ h => h) (Or.inl ⟨by rfl, ?_⟩) (by assumption) ?_
  rotate_left
  · (intro Y hSw; (try dsimp only at hSw); obtain ⟨hS0, hS1⟩ := hSw; go_simp; try with_reducible rfl)
  try simp only [Act.put, List.getElem_toArray, List.getElem_cons_zero, List.getElem_cons_succ, List.setIfInBounds_toArray, List.set_cons_zero, List.set_cons_succ]
  refine wpAnyH_take (i := 7) (v := ?_) rfl (by kernel_rfl) (by kernel_rfl) (by kernel_rfl) (fun _ _ _ h => h) (Or.inl ⟨by rfl, ?_⟩) (by assumption) ?_
  rotate_left
  · (intro Y hSw; (try dsimp only at hSw); obtain ⟨hS0, hS1⟩ := hSw; go_simp; try with_reducible rfl)
  try simp only [Act.put, List.getElem_toArray, List.getElem_cons_zero, List.getElem_cons_succ, List.setIfInBounds_toArray, List.set_cons_zero, List.set_cons_succ]
  refine wpAnyH_ready (rs := [8]) (by kernel_rfl) (by simp) ?_
  refine AllReadyH.cons rfl (fun K hK => ?_) AllReadyH.nil
  go_simp
  refine HC.out.mono ?_; rintro e w1 ⟨v, rfl, ho, k1⟩
  have K1 : Below w.heap.size w w1 := kd.trans k1
  have hn : v.ownBlock ≠ some w1.heap.size := fun e => by have := (owns_block ho _ e).2; omega
  have hg : ∀ g, v.ownBlock = some g → g < w1.heap.size + 1 := fun g e => by have := (owns_block ho _ e).2; omega
  obtain ⟨sa, sc, rfl, _⟩ := (RowAt.of_owns ho (Nat.le_refl _)).len
  have HO := Lib.hid ho
  have HN := Lib.hid hn
  have HG := Lib.hid hg
  have e0 := (K1.cell (p := ⟨s, 0, none⟩) hlt).trans c0
  have e1 := (K1.cell (p := ⟨s, 1, none⟩) hlt).trans c1
  have K2 : Below w1.heap.size w1 (w1.alloc (.cells #[.int .i64 L.length, .slice sa (nW L.length) sc, .bool true] 50)) := (Below.refl _ w1).alloc (Nat.le_refl _) _
  have hlt1 : s < w1.heap.size := by have := K1.size; omega
  clear ho hn hg
  go_simp
  refine hK.out _ _ (⟨e0, e1⟩) (fun hHeld => ?_)
  clear hK K
  try simp only [Act.put, List.getElem_toArray, List.getElem_cons_zero, List.getElem_cons_succ, List.setIfInBounds_toArray, List.set_cons_zero, List.set_cons_succ]
  refine wpAnyH_take (i := 9) (v := ?_) rfl (by kernel_rfl) (by kernel_rfl) (by kernel_rfl) (fun _ _ _ h => h) (Or.inl ⟨by rfl, ?_⟩) (by assumption) ?_
  rotate_left
  · (intro Y hSw; (try dsimp only at hSw); obtain ⟨hS0, hS1⟩ := hSw; go_simp; try with_reducible rfl)
  try simp only [Act.put, List.getElem_toArray, List.getElem_cons_zero, List.getElem_cons_succ, List.setIfInBounds_toArray, List.set_cons_zero, List.set_cons_succ]
  refine wpAnyH_ready (rs := [10]) (by kernel_rfl) (by simp) ?_
  refine AllReadyH.cons rfl (fun K hK => ?_) AllReadyH.nil
  go_simp
  refine hK.out _ _ (⟨(K2.cell (p := ⟨s, 0, none⟩) hlt1).trans e0, (K2.cell (p := ⟨s, 1, none⟩) hlt1).trans e1⟩) (fun hHeld => ?_)
  clear hK K
  try simp only [Act.put, List.getElem_toArray, List.getElem_cons_zero, List.getElem_cons_succ, List.setIfInBounds_toArray, List.set_cons_zero, List.set_cons_succ]
  refine wpAnyH_take (i := 11) (v := ?_) rfl (by kernel_rfl) (by kernel_rfl) (by kernel_rfl) (fun _ _ _ h => h) (Or.inl ⟨by rfl, ?_⟩) (by assumption) ?_
  rotate_left
  · (intro Y hSw; (try dsimp only at hSw); obtain ⟨hS0, hS1⟩ := hSw; go_simp; try with_reducible rfl)
  try simp only [Act.put, List.getElem_toArray, List.getElem_cons_zero, List.getElem_cons_succ, List.setIfInBounds_toArray, List.set_cons_zero, List.set_cons_succ]
  refine wpAnyH_done (by kernel_rfl) ?_ _
  go_wp2_with fail
  go_ret
  exact ⟨_, rfl, ⟨K1.size, by simp, Nat.le_refl _, _, Blk.new w1 _ _, owns_below HO.out ((Below.refl _ w1).alloc (Nat.le_refl _) _) (Nat.le_refl _), HN.out, by simpa using HG.out⟩, K1.alloc K1.size _⟩
theorem wdsL_inj {L M : List Bool} (h : L.length = M.length) : wdsL L = wdsL M ↔ L = M := by
  refine ⟨fun e => ?_, fun e => by rw [e]⟩
  refine List.ext_getElem h fun k h1 h2 => ?_
  have hj : k / 64 < nW L.length := by unfold nW; omega
  have e1 : ((wdL L (k / 64) : Nat) : Int) = ((wdL M (k / 64) : Nat) : Int) := by
    rw [← wdsL_get L (k / 64) (by rw [wdsL_len]; exact hj), ← wdsL_get M (k / 64) (by rw [wdsL_len, ← h]; exact hj)]
    simp only [e]
  have e2 : wdL L (k / 64) = wdL M (k / 64) := by omega
  have b1 := wdL_bit L k
  have b2 := wdL_bit M k
  rw [e2, b2] at b1
  rw [List.getD_eq_getElem?_getD, List.getD_eq_getElem?_getD, List.getElem?_eq_getElem h1, List.getElem?_eq_getElem h2] at b1
  exact b1.symm
theorem Same_nn {w : World} {p q : Option Addr} (hS : NoMk w p) (hT : NoMk w q) : Calls Tryd.prog 20 #[.pointer p, .pointer q] w fun e w' => e = .returned (.bool true) ∧ w = w' := by
  go_enter Tryd.func20, Tryd.ntmps20
  go_wp2_with fail
  refine (none_none hS).mono ?_; rintro e _ ⟨rfl, rfl⟩
  go_wp2_with fail
  refine (none_none hS).mono ?_; rintro e _ ⟨rfl, rfl⟩
  go_wp2_with fail
  refine (none_none hT).mono ?_; rintro e _ ⟨rfl, rfl⟩
  go_wp2_with fail
  go_ret
  exact ⟨rfl, rfl⟩
theorem Same_ln {lo hi : Nat} {w : World} {s : Nat} {l : List Bool} {q : Option Addr} (hS : MkAt lo hi w s l) (hT : NoMk w q) : Calls Tryd.prog 20 #[.pointer (some ⟨s, 0, none⟩), .pointer q] w fun e w' => e = .returned (.bool false) ∧ w = w' := by
  go_enter Tryd.func20, Tryd.ntmps20
  go_wp2_with fail
  refine (none_live hS).mono ?_; rintro e _ ⟨rfl, rfl⟩
  go_wp2_with fail
  refine (none_none hT).mono ?_; rintro e _ ⟨rfl, rfl⟩
  go_wp2_with fail
  refine (none_live hS).mono ?_; rintro e _ ⟨rfl, rfl⟩
  go_wp2_with fail
  go_ret
  exact ⟨rfl, rfl⟩
theorem Same_nl {lo hi : Nat} {w : World} {s : Nat} {l : List Bool} {q : Option Addr} (hS : MkAt lo hi w s l) (hT : NoMk w q) : Calls Tryd.prog 20 #[.pointer q, .pointer (some ⟨s, 0, none⟩)] w fun e w' => e = .returned (.bool false) ∧ w = w' := by
  go_enter Tryd.func20, Tryd.ntmps20
  go_wp2_with fail
  refine (none_none hT).mono ?_; rintro e _ ⟨rfl, rfl⟩
  go_wp2_with fail
  refine (none_none hT).mono ?_; rintro e _ ⟨rfl, rfl⟩
  go_wp2_with fail
  refine (none_live hS).mono ?_; rintro e _ ⟨rfl, rfl⟩
  go_wp2_with fail
  go_ret
  exact ⟨rfl, rfl⟩
theorem Same_ok {lo hi lo' hi' : Nat} {w : World} {s t : Nat} {L M : List Bool} (hS : MkAt lo hi w s L) (hT : MkAt lo' hi' w t M) (hl : L.length ≤ 4096) (hm : M.length ≤ 4096) : Calls Tryd.prog 20 #[.pointer (some ⟨s, 0, none⟩), .pointer (some ⟨t, 0, none⟩)] w fun e w' => e = .returned (.bool (decide (L = M))) ∧ Below w.heap.size w w' := by
  obtain ⟨a, cap, c0, c1, c2, hr⟩ := hS.open
  obtain ⟨a', cap', d0, d1, d2, hr'⟩ := hT.open
  have hs := hS.lt
  have ht := hT.lt
  by_cases he : L.length = M.length
  · have HE : ∀ W, Below w.heap.size w W → Calls Tryd.prog 42 #[.slice a (nW L.length) cap, .slice a' (nW M.length) cap'] W fun e w' => e = .returned (.bool (decide (L = M))) ∧ Below W.heap.size W w' := by
      intro W k
      have hwl : nW L.length < 1000000 := by unfold nW; omega
      rw [← he] at hr'
      have := equal_calls (.slice a (nW L.length) cap) (.slice a' (nW L.length) cap') (wdsL L) (wdsL M) (nW L.length) hi hi' W (wdsL_len L) (by rw [wdsL_len, he]) hwl (hr.below k hS.2.2.1) (hr'.below k hT.2.2.1) (Nat.le_trans hS.2.2.1 k.size) (Nat.le_trans hT.2.2.1 k.size)
      rw [← he]
      rwa [decide_eq_decide.2 (wdsL_inj he)] at this
    have hx : ((L.length : Int) == (M.length : Int)) = true := by rw [he]; simp
    have HEQ := Lib.hid HE
    clear HE he hr hr'
    go_enter Tryd.func20, Tryd.ntmps20
    go_wp2_with fail
    refine (none_live hS).mono ?_; rintro e _ ⟨rfl, rfl⟩
    go_wp2_with fail
    refine (none_live hT).mono ?_; rintro e _ ⟨rfl, rfl⟩
    go_wp2_with fail
    refine wp_region_after w.heap.size (by kernel_rfl) (by kernel_rfl) ?_
    have hc0 : ∀ x : After w.heap.size w, x.1.cell? ⟨s, 0, none⟩ = some (.int .i64 L.length) := fun x => x.cell c0 hs
    have hc1 : ∀ x : After w.heap.size w, x.1.cell? ⟨s, 1, none⟩ = some (.slice a (nW L.length) cap) := fun x => x.cell c1 hs
    have hd0 : ∀ x : After w.heap.size w, x.1.cell? ⟨t, 0, none⟩ = some (.int .i64 M.length) := fun x => x.cell d0 ht
    have hd1 : ∀ x : After w.heap.size w, x.1.cell? ⟨t, 1, none⟩ = some (.slice a' (nW M.length) cap') := fun x => x.cell d1 ht
    repeat (first | go_big_quiet_step (first | (go_at_call 42; exact after_call (Nat.le_refl _) (HEQ.out _ (After.below _)))))
    refine wpQuiet_nil ?_
    rintro W ⟨xx, hx⟩
    have k : Below w.heap.size w W := by rw [hx]; exact xx.2
    clear hx xx
    go_wp2_with fail
    go_ret
    exact ⟨rfl, k⟩
  · have hx : ((L.length : Int) == (M.length : Int)) = false := by simp; omega
    rw [decide_eq_false (fun e => he (by rw [e]))]
    clear he hr hr'
    go_enter Tryd.func20, Tryd.ntmps20
    go_wp2_with fail
    refine (none_live hS).mono ?_; rintro e _ ⟨rfl, rfl⟩
    go_wp2_with fail
    refine (none_live hT).mono ?_; rintro e _ ⟨rfl, rfl⟩
    go_wp2_with fail
    refine wp_region_after w.heap.size (by kernel_rfl) (by kernel_rfl) ?_
    have hc0 : ∀ x : After w.heap.size w, x.1.cell? ⟨s, 0, none⟩ = some (.int .i64 L.length) := fun x => x.cell c0 hs
    have hd0 : ∀ x : After w.heap.size w, x.1.cell? ⟨t, 0, none⟩ = some (.int .i64 M.length) := fun x => x.cell d0 ht
    repeat (first | go_big_quiet_step (first | fail))
    refine wpQuiet_nil ?_
    rintro W ⟨xx, hx⟩
    have k : Below w.heap.size w W := by rw [hx]; exact xx.2
    clear hx xx
    go_wp2_with fail
    go_ret
    exact ⟨rfl, k⟩
/-- Marks, or none, which stand for no place. -/
def MkV (W : World) (p : Option Addr) (L : List Bool) : Prop := (NoMk W p ∧ L = []) ∨ ∃ lo hi s, p = some ⟨s, 0, none⟩ ∧ MkAt lo hi W s L ∧ L.length ≤ 4096
theorem MkV.step {W W' : World} {p : Option Addr} {L : List Bool} (h : MkV W p L) (k : Below W.heap.size W W') : MkV W' p L := by
  rcases h with ⟨h1, h2⟩ | ⟨lo, hi, s, h1, h2, h3⟩
  · exact .inl ⟨h1.step k, h2⟩
  · exact .inr ⟨lo, hi, s, h1, h2.step k, h3⟩
theorem MkV.few {W : World} {p : Option Addr} {L : List Bool} (h : MkV W p L) : L.length ≤ 4096 := by
  rcases h with ⟨_, rfl⟩ | ⟨lo, hi, s, h1, h2, h3⟩
  · simp
  · exact h3
theorem Len_v {w : World} {p : Option Addr} {L : List Bool} (h : MkV w p L) : Calls Tryd.prog 14 #[.pointer p] w fun e w' => e = .returned (.int .i64 L.length) ∧ w = w' := by
  rcases h with ⟨h1, rfl⟩ | ⟨lo, hi, s, rfl, h2, h3⟩
  · exact Len_none h1
  · exact Len_ok h2
theorem Has_v {w : World} {p : Option Addr} {L : List Bool} (h : MkV w p L) (i : Int) : Calls Tryd.prog 21 #[.pointer p, .int .i64 i] w fun e w' => e = .returned (.bool (hasB L i)) ∧ Below w.heap.size w w' := by
  rcases h with ⟨h1, rfl⟩ | ⟨lo, hi, s, rfl, h2, h3⟩
  · have e : hasB [] i = false := by unfold hasB; simp
    rw [e]; exact Has_none h1 i
  · exact Has_ok h2 h3 i
end Go.Proofs.YtbkegknfmcanaaaDoor
