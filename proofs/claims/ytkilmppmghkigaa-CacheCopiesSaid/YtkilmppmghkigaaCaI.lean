/-
  Package cache: Put's questions. Conditions: rows of fewer than a million.
-/
import Derived.Test.YtkilmppmghkigaaCaH
namespace Go.Proofs.Ytkilmppmghkigaa
open Go.RowKit
attribute [local go_sem] Oper.semAt_some
set_option maxHeartbeats 4000000
set_option maxRecDepth 4000

theorem put1_calls {w : World} {s ps pc px : Nat} {L : Nat → List Int} {c x : Int} (hS : ShAt w s L) (hL : ∀ i, (L i).length < 1000000) (hs : w.cell? ⟨ps, 0, none⟩ = some (.pointer (some ⟨s, 0, none⟩))) (hc : w.cell? ⟨pc, 0, none⟩ = some (.int .i64 c)) (hx : w.cell? ⟨px, 0, none⟩ = some (.int .i64 x)) :
    Calls Try.prog 29 #[.pointer (some ⟨ps, 0, none⟩), .pointer (some ⟨pc, 0, none⟩), .pointer (some ⟨px, 0, none⟩)] w fun e w' => e = .returned (.bool (hasR L c x).isSome) ∧ Below w.heap.size w w' := by
  go_enter Try.func29, Try.ntmps29
  go_wp2_with fail
  refine (Has_ok hS hL c x).mono ?_; rintro e w1 ⟨rfl, k1⟩
  go_wp2_with fail
  go_ret
  exact ⟨rfl, k1⟩
structure ShS (ps pt pc s t c : Nat) (v : Value) (Y : World) : Prop where
  cs : Y.cell? ⟨ps, 0, none⟩ = some (.pointer (some ⟨s, 0, none⟩))
  ct : Y.cell? ⟨pt, 0, none⟩ = some (.int .i64 t)
  cc : Y.cell? ⟨pc, 0, none⟩ = some (.int .i64 c)
  cv : Y.cell? ⟨s, t * 8 + c, none⟩ = some v
theorem put2_calls {w : World} {s ps pt pc t c : Nat} {L : Nat → List Int} (hS : ShAt w s L) (ht4 : t < 4) (hc8 : c < 8) (hL : ∀ i, (L i).length < 1000000) (hs : w.cell? ⟨ps, 0, none⟩ = some (.pointer (some ⟨s, 0, none⟩))) (ht : w.cell? ⟨pt, 0, none⟩ = some (.int .i64 t)) (hc : w.cell? ⟨pc, 0, none⟩ = some (.int .i64 c)) :
    Calls Try.prog 30 #[.pointer (some ⟨ps, 0, none⟩), .pointer (some ⟨pt, 0, none⟩), .pointer (some ⟨pc, 0, none⟩)] w fun e w' => e = .returned (.bool (decide (8 ≤ ((L (t * 8 + c)).length : Int)))) ∧ Below w.heap.size w w' := by
  obtain ⟨v, hv, _, hr⟩ := hS.row (t * 8 + c) (by omega)
  obtain ⟨a, n, rfl, _⟩ := hr
  have hSS : ShS ps pt pc s t c (.slice a (L (t * 8 + c)).length n) w.drew := ⟨hs, ht, hc, hv⟩
  clear hv hs ht hc hL
  go_enter Try.func30, Try.ntmps30
  go_wp2_with fail
  refine wp_region_held_drew (S := ShS ps pt pc s t c (.slice a (L (t * 8 + c)).length n)) (by kernel_rfl) hSS (fun hHeld => ?_)
  refine wpAnyH_take (i := 0) (v := ?_) rfl (by kernel_rfl) (by kernel_rfl) (by kernel_rfl) (fun _ _ _ h => h) (Or.inl ⟨by rfl, ?_⟩) (by assumption) ?_
  rotate_left
  · (intro Y hSw; (try dsimp only at hSw); obtain ⟨hS0, hS1, hS2, hS3⟩ := hSw; go_simp; try with_reducible rfl)
  try simp only [Act.put, List.getElem_toArray, List.getElem_cons_zero, List.getElem_cons_succ, List.setIfInBounds_toArray, List.set_cons_zero, List.set_cons_succ]
  refine wpAnyH_take (i := 1) (v := ?_) rfl (by kernel_rfl) (by kernel_rfl) (by kernel_rfl) (fun _ _ _ h => h) (Or.inl ⟨by rfl, ?_⟩) (by assumption) ?_
  rotate_left
  · (intro Y hSw; (try dsimp only at hSw); obtain ⟨hS0, hS1, hS2, hS3⟩ := hSw; go_simp; try with_reducible rfl)
  try simp only [Act.put, List.getElem_toArray, List.getElem_cons_zero, List.getElem_cons_succ, List.setIfInBounds_toArray, List.set_cons_zero, List.set_cons_succ]
  refine wpAnyH_take (i := 2) (v := ?_) rfl (by kernel_rfl) (by kernel_rfl) (by kernel_rfl) (fun _ _ _ h => h) (Or.inl ⟨by rfl, ?_⟩) (by assumption) ?_
  rotate_left
  · (intro Y hSw; (try dsimp only at hSw); obtain ⟨hS0, hS1, hS2, hS3⟩ := hSw; go_simp; try with_reducible rfl)
  try simp only [Act.put, List.getElem_toArray, List.getElem_cons_zero, List.getElem_cons_succ, List.setIfInBounds_toArray, List.set_cons_zero, List.set_cons_succ]
  refine wpAnyH_take (i := 3) (v := ?_) rfl (by kernel_rfl) (by kernel_rfl) (by kernel_rfl) (fun _ _ _ h => h) (Or.inl ⟨by rfl, ?_⟩) (by assumption) ?_
  rotate_left
  · (intro Y hSw; (try dsimp only at hSw); obtain ⟨hS0, hS1, hS2, hS3⟩ := hSw; go_simp; try with_reducible rfl)
  try simp only [Act.put, List.getElem_toArray, List.getElem_cons_zero, List.getElem_cons_succ, List.setIfInBounds_toArray, List.set_cons_zero, List.set_cons_succ]
  refine wpAnyH_take (i := 4) (v := ?_) rfl (by kernel_rfl) (by kernel_rfl) (by kernel_rfl) (fun _ _ _ h => h) (Or.inl ⟨by rfl, ?_⟩) (by assumption) ?_
  rotate_left
  · (intro Y hSw; (try dsimp only at hSw); obtain ⟨hS0, hS1, hS2, hS3⟩ := hSw; go_simp; try with_reducible rfl)
  try simp only [Act.put, List.getElem_toArray, List.getElem_cons_zero, List.getElem_cons_succ, List.setIfInBounds_toArray, List.set_cons_zero, List.set_cons_succ]
  refine wpAnyH_ready (rs := [5]) (by kernel_rfl) (by simp) ?_
  refine AllReadyH.cons rfl (fun K hK => ?_) AllReadyH.nil
  go_simp
  refine (on_calls s t c ht4 hc8 w.drew).mono ?_; rintro e _ ⟨rfl, rfl⟩
  go_wp2_with fail
  refine hK.out _ _ (hSS) (fun hHeld => ?_)
  clear hK K
  try simp only [Act.put, List.getElem_toArray, List.getElem_cons_zero, List.getElem_cons_succ, List.setIfInBounds_toArray, List.set_cons_zero, List.set_cons_succ]
  refine wpAnyH_take (i := 6) (v := ?_) rfl (by kernel_rfl) (by kernel_rfl) (by kernel_rfl) (fun _ _ _ h => h) (Or.inl ⟨by rfl, ?_⟩) (by assumption) ?_
  rotate_left
  · (intro Y hSw; (try dsimp only at hSw); obtain ⟨hS0, hS1, hS2, hS3⟩ := hSw; go_simp; try with_reducible rfl)
  try simp only [Act.put, List.getElem_toArray, List.getElem_cons_zero, List.getElem_cons_succ, List.setIfInBounds_toArray, List.set_cons_zero, List.set_cons_succ]
  refine wpAnyH_take (i := 7) (v := ?_) rfl (by kernel_rfl) (by kernel_rfl) (by kernel_rfl) (fun _ _ _ h => h) (Or.inl ⟨by rfl, ?_⟩) (by assumption) ?_
  rotate_left
  · (intro Y hSw; (try dsimp only at hSw); obtain ⟨hS0, hS1, hS2, hS3⟩ := hSw; go_simp; try with_reducible rfl)
  try simp only [Act.put, List.getElem_toArray, List.getElem_cons_zero, List.getElem_cons_succ, List.setIfInBounds_toArray, List.set_cons_zero, List.set_cons_succ]
  refine wpAnyH_take (i := 8) (v := ?_) rfl (by kernel_rfl) (by kernel_rfl) (by kernel_rfl) (fun _ _ _ h => h) (Or.inl ⟨by rfl, ?_⟩) (by assumption) ?_
  rotate_left
  · (intro Y hSw; (try dsimp only at hSw); obtain ⟨hS0, hS1, hS2, hS3⟩ := hSw; go_simp; try with_reducible rfl)
  try simp only [Act.put, List.getElem_toArray, List.getElem_cons_zero, List.getElem_cons_succ, List.setIfInBounds_toArray, List.set_cons_zero, List.set_cons_succ]
  refine wpAnyH_take (i := 9) (v := ?_) rfl (by kernel_rfl) (by kernel_rfl) (by kernel_rfl) (fun _ _ _ h => h) (Or.inl ⟨by rfl, ?_⟩) (by assumption) ?_
  rotate_left
  · (intro Y hSw; (try dsimp only at hSw); obtain ⟨hS0, hS1, hS2, hS3⟩ := hSw; go_simp; try with_reducible rfl)
  try simp only [Act.put, List.getElem_toArray, List.getElem_cons_zero, List.getElem_cons_succ, List.setIfInBounds_toArray, List.set_cons_zero, List.set_cons_succ]
  refine wpAnyH_take (i := 10) (v := ?_) rfl (by kernel_rfl) (by kernel_rfl) (by kernel_rfl) (fun _ _ _ h => h) (Or.inl ⟨by rfl, ?_⟩) (by assumption) ?_
  rotate_left
  · (intro Y hSw; (try dsimp only at hSw); obtain ⟨hS0, hS1, hS2, hS3⟩ := hSw; go_simp; try with_reducible rfl)
  try simp only [Act.put, List.getElem_toArray, List.getElem_cons_zero, List.getElem_cons_succ, List.setIfInBounds_toArray, List.set_cons_zero, List.set_cons_succ]
  refine wpAnyH_done (by kernel_rfl) ?_ _
  go_wp2_with fail
  go_ret
  exact ⟨rfl, (Below.refl _ w).drew⟩
def putAsks (s p1 p2 p3 ps pt pc px : Nat) (L : Nat → List Int) (t c x : Int) : List Ask :=
  [⟨44, #[.pointer (some ⟨s, 0, none⟩)], #[], 1, false⟩, ⟨53, #[], #[.pointer (some ⟨p1, 0, none⟩), .pointer (some ⟨p1 + 1, 0, none⟩)], 2, badIn t 4⟩,
   ⟨53, #[], #[.pointer (some ⟨p2, 0, none⟩), .pointer (some ⟨p2 + 1, 0, none⟩)], 2, badIn c 8⟩, ⟨53, #[], #[.pointer (some ⟨p3, 0, none⟩), .pointer (some ⟨p3 + 1, 0, none⟩)], 4, badIn x 256⟩,
   ⟨29, #[], #[.pointer (some ⟨ps, 0, none⟩), .pointer (some ⟨pc, 0, none⟩), .pointer (some ⟨px, 0, none⟩)], 280, (hasR L c x).isSome⟩,
   ⟨30, #[], #[.pointer (some ⟨ps, 0, none⟩), .pointer (some ⟨pt, 0, none⟩), .pointer (some ⟨pc, 0, none⟩)], 3, decide (8 ≤ ((L (t.toNat * 8 + c.toNat)).length : Int))⟩]
def putErr (L : Nat → List Int) (t c x : Int) : Int := if badIn t 4 = true then 2 else if badIn c 8 = true then 2 else if badIn x 256 = true then 4 else if (hasR L c x).isSome = true then 280 else if 8 ≤ ((L (t.toNat * 8 + c.toNat)).length : Int) then 3 else 0
theorem putErr_eq (s p1 p2 p3 ps pt pc px : Nat) (L : Nat → List Int) (t c x : Int) : firstErr (putAsks s p1 p2 p3 ps pt pc px L t c x) = putErr L t c x := by simp [firstErr, putAsks, putErr]
theorem badIn_false {n b : Int} (h : badIn n b = false) : 0 ≤ n ∧ n < b := by simp [badIn] at h; omega
theorem put_answers {w : World} {s p1 p2 p3 ps pt pc px : Nat} {L : Nat → List Int} {t c x : Int} (hS : ShAt w s L) (hL : ∀ i, (L i).length < 1000000) (h1 : Blk w p1 #[.int .i64 t] 3) (h2 : Blk w (p1 + 1) #[.int .i64 4] 3) (h3 : Blk w p2 #[.int .i64 c] 3) (h4 : Blk w (p2 + 1) #[.int .i64 8] 3) (h5 : Blk w p3 #[.int .i64 x] 3) (h6 : Blk w (p3 + 1) #[.int .i64 256] 3)
    (hs : Blk w ps #[.pointer (some ⟨s, 0, none⟩)] 27) (ht : Blk w pt #[.int .i64 t] 3) (hc : Blk w pc #[.int .i64 c] 3) (hx : Blk w px #[.int .i64 x] 3) : Answers w (putAsks s p1 p2 p3 ps pt pc px L t c x) := by
  constructor
  · intro i h args W
    match i, h with
    | 0, _ => exact enters_of Try.func44 (by kernel_rfl) rfl args W
    | 1, _ => exact enters_of Try.func53 (by kernel_rfl) rfl args W
    | 2, _ => exact enters_of Try.func53 (by kernel_rfl) rfl args W
    | 3, _ => exact enters_of Try.func53 (by kernel_rfl) rfl args W
    | 4, _ => exact enters_of Try.func29 (by kernel_rfl) rfl args W
    | 5, _ => exact enters_of Try.func30 (by kernel_rfl) rfl args W
  · intro i h hno W k
    match i, h with
    | 0, _ => exact none_live (hS.step k)
    | 1, _ => exact in1_calls t 4 p1 (p1 + 1) W ((h1.below k h1.lt).cell 0 rfl) ((h2.below k h2.lt).cell 0 rfl)
    | 2, _ => exact in1_calls c 8 p2 (p2 + 1) W ((h3.below k h3.lt).cell 0 rfl) ((h4.below k h4.lt).cell 0 rfl)
    | 3, _ => exact in1_calls x 256 p3 (p3 + 1) W ((h5.below k h5.lt).cell 0 rfl) ((h6.below k h6.lt).cell 0 rfl)
    | 4, _ => exact put1_calls (hS.step k) hL ((hs.below k hs.lt).cell 0 rfl) ((hc.below k hc.lt).cell 0 rfl) ((hx.below k hx.lt).cell 0 rfl)
    | 5, _ =>
      have e1 := badIn_false (hno 1 (by simp [putAsks]) (by omega))
      have e2 := badIn_false (hno 2 (by simp [putAsks]) (by omega))
      obtain ⟨a, rfl⟩ : ∃ a : Nat, t = a := ⟨t.toNat, by omega⟩
      obtain ⟨b, rfl⟩ : ∃ b : Nat, c = b := ⟨c.toNat, by omega⟩
      exact put2_calls (hS.step k) (by omega) (by omega) hL ((hs.below k hs.lt).cell 0 rfl) ((ht.below k ht.lt).cell 0 rfl) ((hc.below k hc.lt).cell 0 rfl)
end Go.Proofs.Ytkilmppmghkigaa
