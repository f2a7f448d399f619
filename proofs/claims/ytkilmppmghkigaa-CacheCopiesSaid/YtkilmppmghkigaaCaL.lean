/-
  Package cache: Drop. Conditions: shelves of fewer than a million.
-/
import Derived.Test.YtkilmppmghkigaaCaD2
import Derived.Test.YtkilmppmghkigaaCaJ
namespace Go.Proofs.Ytkilmppmghkigaa
open Go.RowKit
attribute [local go_sem] Oper.semAt_some
set_option maxHeartbeats 4000000
set_option maxRecDepth 4000

def drAsks (s p1 p2 : Nat) (c x : Int) : List Ask :=
  [⟨44, #[.pointer (some ⟨s, 0, none⟩)], #[], 1, false⟩, ⟨53, #[], #[.pointer (some ⟨p1, 0, none⟩), .pointer (some ⟨p1 + 1, 0, none⟩)], 2, badIn c 8⟩,
   ⟨53, #[], #[.pointer (some ⟨p2, 0, none⟩), .pointer (some ⟨p2 + 1, 0, none⟩)], 4, badIn x 256⟩]
def drErr (c x : Int) : Int := if badIn c 8 = true then 2 else if badIn x 256 = true then 4 else 0
theorem drErr_eq (s p1 p2 : Nat) (c x : Int) : firstErr (drAsks s p1 p2 c x) = drErr c x := by simp [firstErr, drAsks, drErr]
theorem dr_answers {w : World} {s p1 p2 : Nat} {L : Nat → List Int} {c x : Int} (hS : ShAt w s L) (h1 : Blk w p1 #[.int .i64 c] 3) (h2 : Blk w (p1 + 1) #[.int .i64 8] 3) (h3 : Blk w p2 #[.int .i64 x] 3) (h4 : Blk w (p2 + 1) #[.int .i64 256] 3) :
    Answers w (drAsks s p1 p2 c x) := by
  constructor
  · intro i h args W
    match i, h with
    | 0, _ => exact enters_of Try.func44 (by kernel_rfl) rfl args W
    | 1, _ => exact enters_of Try.func53 (by kernel_rfl) rfl args W
    | 2, _ => exact enters_of Try.func53 (by kernel_rfl) rfl args W
  · intro i h _ W k
    match i, h with
    | 0, _ => exact none_live (hS.step k)
    | 1, _ => exact in1_calls c 8 p1 (p1 + 1) W ((h1.below k h1.lt).cell 0 rfl) ((h2.below k h2.lt).cell 0 rfl)
    | 2, _ => exact in1_calls x 256 p2 (p2 + 1) W ((h3.below k h3.lt).cell 0 rfl) ((h4.below k h4.lt).cell 0 rfl)
theorem drErr_zero {c x : Int} (h : drErr c x = 0) : (0 ≤ c ∧ c < 8) ∧ (0 ≤ x ∧ x < 256) := by
  unfold drErr at h
  by_cases h1 : badIn c 8 = true
  · simp [h1] at h
  · by_cases h2 : badIn x 256 = true
    · simp [h1, h2] at h
    · exact ⟨badIn_false (by simpa using h1), badIn_false (by simpa using h2)⟩
structure DrS (px : Nat) (x : Int) (Y : World) : Prop where
  cx : Y.cell? ⟨px, 0, none⟩ = some (.int .i64 x)
theorem Drop_ok {w : World} {s : Nat} {L : Nat → List Int} (hS : ShAt w s L) (hL : ∀ i, (L i).length < 1000000) (c x : Int) : Calls Try.prog 13 #[.pointer (some ⟨s, 0, none⟩), .int .i64 c, .int .i64 x] w fun e w' =>
    e = .returned (.tuple #[.int .i64 (drpVal L c x), .int .i64 (drpErr L c x)]) ∧ ShAt w' s (drpAfter L c x) ∧ Chg s w w' := by
  obtain ⟨w0, hw0⟩ : ∃ w0, w.alloc (.cells #[.int .i64 x] 3) = w0 := ⟨_, rfl⟩
  have hA : Blk w0 w.heap.size #[.int .i64 x] 3 := by rw [← hw0]; exact Blk.new w _ _
  have hb0 : Below w.heap.size w w0 := by rw [← hw0]; exact (Below.refl _ w).alloc (Nat.le_refl _) _
  have h0 : ShAt w0 s L := hS.step hb0
  have hsl := hS.lt
  have z0 := hb0.size
  have a0 : w0.cell? ⟨w.heap.size, 0, none⟩ = some (.int .i64 x) := hA.cell 0 rfl
  have hcx : ∀ Y, Below w0.heap.size w0 Y → DrS w.heap.size x Y := fun Y k => ⟨(k.cell (p := ⟨w.heap.size, 0, none⟩) hA.lt).trans a0⟩
  have HCX := Lib.hid hcx
  clear hcx
  obtain ⟨q, hq⟩ : ∃ q, drErr c x = q := ⟨_, rfl⟩
  have HQ := Lib.hid hq
  clear hq
  go_enter Try.func13, Try.ntmps13
  go_wp2_with fail
  clear hw0
  refine wp_region_held_drew (S := DrS w.heap.size x) (by kernel_rfl) (HCX.out _ (Below.refl _ w0).drew) (fun hHeld => ?_)
  refine wpAnyH_take (i := 0) (v := ?_) rfl (by kernel_rfl) (by kernel_rfl) (by kernel_rfl) (fun _ _ _ h => h) (Or.inl ⟨by rfl, ?_⟩) (by assumption) ?_
  rotate_left
  · (intro Y hSw; (try dsimp only at hSw); obtain ⟨hS0⟩ := hSw; go_simp; try with_reducible rfl)
  try simp only [Act.put, List.getElem_toArray, List.getElem_cons_zero, List.getElem_cons_succ, List.setIfInBounds_toArray, List.set_cons_zero, List.set_cons_succ]
  refine wpAnyH_take (i := 2) (v := ?_) rfl (by kernel_rfl) (by kernel_rfl) (by kernel_rfl) (fun _ _ _ h => h) (Or.inl ⟨by rfl, ?_⟩) (by assumption) ?_
  rotate_left
  · (intro Y hSw; (try dsimp only at hSw); obtain ⟨hS0⟩ := hSw; go_simp; try with_reducible rfl)
  try simp only [Act.put, List.getElem_toArray, List.getElem_cons_zero, List.getElem_cons_succ, List.setIfInBounds_toArray, List.set_cons_zero, List.set_cons_succ]
  refine wpAnyH_take (i := 4) (v := ?_) rfl (by kernel_rfl) (by kernel_rfl) (by kernel_rfl) (fun _ _ _ h => h) (Or.inl ⟨by rfl, ?_⟩) (by assumption) ?_
  rotate_left
  · (intro Y hSw; (try dsimp only at hSw); obtain ⟨hS0⟩ := hSw; go_simp; try with_reducible rfl)
  try simp only [Act.put, List.getElem_toArray, List.getElem_cons_zero, List.getElem_cons_succ, List.setIfInBounds_toArray, List.set_cons_zero, List.set_cons_succ]
  refine wpAnyH_ready (rs := [1]) (by kernel_rfl) (by simp) ?_
  refine AllReadyH.cons rfl (fun K hK => ?_) AllReadyH.nil
  go_simp
  refine (is_calls _ _).mono ?_; rintro e w1 ⟨rfl, h1⟩
  have k1 := (Below.refl w0.heap.size w0).drew.trans (h1.mono (Nat.le_refl _))
  have z1 := k1.size
  go_wp2_with fail
  refine hK.out _ _ (HCX.out _ k1) (fun hHeld => ?_)
  clear hK K
  try simp only [Act.put, List.getElem_toArray, List.getElem_cons_zero, List.getElem_cons_succ, List.setIfInBounds_toArray, List.set_cons_zero, List.set_cons_succ]
  refine wpAnyH_ready (rs := [3]) (by kernel_rfl) (by simp) ?_
  refine AllReadyH.cons rfl (fun K hK => ?_) AllReadyH.nil
  go_simp
  refine (in_calls c 8 2 _).mono ?_; rintro e w2 ⟨rfl, p1, p2, h2⟩
  have k2 := k1.trans (h2.mono k1.size)
  go_wp2_with fail
  refine hK.out _ _ (HCX.out _ k2) (fun hHeld => ?_)
  clear hK K
  try simp only [Act.put, List.getElem_toArray, List.getElem_cons_zero, List.getElem_cons_succ, List.setIfInBounds_toArray, List.set_cons_zero, List.set_cons_succ]
  refine wpAnyH_ready (rs := [5]) (by kernel_rfl) (by simp) ?_
  refine AllReadyH.cons rfl (fun K hK => ?_) AllReadyH.nil
  go_simp
  refine (in_calls x 256 4 _).mono ?_; rintro e w3 ⟨rfl, p3, p4, h3⟩
  have k3 := k2.trans (h3.mono k2.size)
  have z3 := k3.size
  replace p1 := p1.below h3 p1.lt
  replace p2 := p2.below h3 p2.lt
  go_wp2_with fail
  refine hK.out _ _ (HCX.out _ k3) (fun hHeld => ?_)
  clear hK K
  try simp only [Act.put, List.getElem_toArray, List.getElem_cons_zero, List.getElem_cons_succ, List.setIfInBounds_toArray, List.set_cons_zero, List.set_cons_succ]
  refine wpAnyH_ready (rs := [6]) (by kernel_rfl) (by simp) ?_
  refine AllReadyH.cons rfl (fun K hK => ?_) AllReadyH.nil
  go_simp
  have jx : Below w3.heap.size w3 (w3.alloc (.cells (askList (drAsks s w1.heap.size w2.heap.size c x)).toArray 66)) := (Below.refl _ w3).alloc (Nat.le_refl _) _
  have k4 := k3.trans (jx.mono z3)
  have hrow : AskRow (w3.alloc (.cells (askList (drAsks s w1.heap.size w2.heap.size c x)).toArray 66)) w3.heap.size (drAsks s w1.heap.size w2.heap.size c x) := askRow_of (Blk.new w3 _ _)
  refine hK.out _ _ (HCX.out _ k4) (fun hHeld => ?_)
  clear hK K
  try simp only [Act.put, List.getElem_toArray, List.getElem_cons_zero, List.getElem_cons_succ, List.setIfInBounds_toArray, List.set_cons_zero, List.set_cons_succ]
  change wpAnyH _ _ _ _ _ _ _ _ (w3.alloc (.cells (askList (drAsks s w1.heap.size w2.heap.size c x)).toArray 66))
  generalize (w3.alloc (.cells (askList (drAsks s w1.heap.size w2.heap.size c x)).toArray 66)) = w4 at k4 hrow hHeld jx ⊢
  have hans : Answers w4 (drAsks s w1.heap.size w2.heap.size c x) := dr_answers (h0.step k4) (p1.below jx p1.lt) (p2.below jx p2.lt) (p3.below jx p3.lt) (p4.below jx p4.lt)
  refine wpAnyH_ready (rs := [7]) (by kernel_rfl) (by simp) ?_
  refine AllReadyH.cons rfl (fun K hK => ?_) AllReadyH.nil
  go_simp
  refine (asked_ok w4 w3.heap.size 3 3 _ rfl (by simp [drAsks]) (Lib.hid hrow) (Lib.hid hans)).mono ?_; rintro e w5 ⟨rfl, h5⟩
  rw [drErr_eq, HQ.out]
  have k5 := k4.trans (h5.mono k4.size)
  have z5 := k5.size
  go_wp2_with fail
  refine hK.out _ _ (HCX.out _ k5) (fun hHeld => ?_)
  clear hK K
  try simp only [Act.put, List.getElem_toArray, List.getElem_cons_zero, List.getElem_cons_succ, List.setIfInBounds_toArray, List.set_cons_zero, List.set_cons_succ]
  refine wpAnyH_take (i := 8) (v := ?_) rfl (by kernel_rfl) (by kernel_rfl) (by kernel_rfl) (fun _ _ _ h => h) (Or.inl ⟨by rfl, ?_⟩) (by assumption) ?_
  rotate_left
  · (intro Y hSw; (try dsimp only at hSw); obtain ⟨hS0⟩ := hSw; go_simp; try with_reducible rfl)
  try simp only [Act.put, List.getElem_toArray, List.getElem_cons_zero, List.getElem_cons_succ, List.setIfInBounds_toArray, List.set_cons_zero, List.set_cons_succ]
  refine wpAnyH_done (by kernel_rfl) ?_ _
  clear hrow hans p1 p2 p3 p4 h1 h2 h3 h5 k1 k2 k3 k4 hHeld jx
  have hS5 := h0.step k5
  have hch : Chg s w w5 := .of_below (hb0.trans (k5.mono z0))
  by_cases h9 : q = 0
  · subst h9
    obtain ⟨⟨c0, c1⟩, x0, x1⟩ := drErr_zero HQ.out
    obtain ⟨cn, rfl⟩ : ∃ n : Nat, c = n := ⟨c.toNat, by omega⟩
    have hbd : badIn (cn : Int) 8 = false := by simp [badIn]; omega
    have hR : hasR L cn x = hasT L cn x := by unfold hasR; rw [hbd]; simp
    have a5 : w5.cell? ⟨w.heap.size, 0, none⟩ = some (.int .i64 x) := (HCX.out _ k5).cx
    have hDE : drpErr L cn x = if (hasT L cn x).isSome = true then 0 else 5 := by
      have := HQ.out
      unfold drErr at this
      unfold drpErr
      rw [hbd] at this ⊢
      by_cases hb2 : badIn x 256 = true
      · rw [hb2] at this; simp at this
      · rw [if_neg (by simp), if_neg hb2, Int.toNat_natCast]
    cases hT : hasT L cn x with
    | none =>
      have e1 : drpErr L cn x = 5 := by rw [hDE, hT]; rfl
      have e2 : drpVal L cn x = 0 := by unfold drpVal; rw [e1]; rfl
      have e3 : drpAfter L cn x = L := by unfold drpAfter; rw [e1]; rfl
      have E1 := Lib.hid e1
      have E2 := Lib.hid e2
      have E3 := Lib.hid e3
      rw [hT] at hR
      have HRR := Lib.hid hR
      clear e1 e2 e3 hDE hT hR hbd
      go_wp2_with fail
      refine (Has_ok hS5 hL cn x).mono ?_; rintro e w6 ⟨rfl, k6⟩
      rw [HRR.out]
      go_wp2_with fail
      go_ret2
      exact ⟨by rw [E1.out, E2.out]; rfl, by rw [E3.out]; exact hS5.step k6, hch.trans (.of_below k6)⟩
    | some t =>
      obtain ⟨ht4, hmem⟩ := hasT_some hT
      have e1 : drpErr L cn x = 0 := by rw [hDE, hT]; rfl
      have e2 : drpVal L cn x = t := by unfold drpVal; rw [if_pos e1, Int.toNat_natCast, hT]; rfl
      have e3 : drpAfter L cn x = upd L (t * 8 + cn) (remI (L (t * 8 + cn)) x) := by unfold drpAfter; rw [if_pos e1, Int.toNat_natCast, hT]; rfl
      have E1 := Lib.hid e1
      have E2 := Lib.hid e2
      have E3 := Lib.hid e3
      rw [hT] at hR
      have HRR := Lib.hid hR
      clear e1 e2 e3 hDE hT hR hbd
      go_wp2_with fail
      refine (Has_ok hS5 hL cn x).mono ?_; rintro e w6 ⟨rfl, k6⟩
      rw [HRR.out]
      have hS6 := hS5.step k6
      have h6 := hch.trans (.of_below k6)
      have k06 := k5.trans (k6.mono k5.size)
      have a6 : w6.cell? ⟨w.heap.size, 0, none⟩ = some (.int .i64 x) := (HCX.out _ k06).cx
      have z6 := k06.size
      obtain ⟨l, hl⟩ : ∃ l, L (t * 8 + cn) = l := ⟨_, rfl⟩
      obtain ⟨v, q1, q2, hr⟩ := hS6.row (t * 8 + cn) (by omega)
      have hlen := hL (t * 8 + cn)
      rw [hl] at hr hmem hlen
      have HLL := Lib.hid hl
      have HR := Lib.hid hr
      have HM := Lib.hid hmem
      obtain ⟨sa, sc, rfl, _⟩ := hr.len
      clear hl hr hmem
      go_wp2_with fail
      refine (on_calls s t cn (by omega) (by omega) w6).mono ?_; rintro e _ ⟨rfl, rfl⟩
      go_wp2_with fail
      refine (clone_ok _ l w6.heap.size w6 (Nat.le_refl _) hlen HR.out).mono ?_; rintro e w7 ⟨v7, rfl, ho, k7⟩
      have hl0 : 0 < l.length := List.length_pos_of_mem HM.out
      obtain ⟨g, cap, cur, hv7, hbg, hgb, hle, hcur⟩ : ∃ g cap cur, v7 = .slice (some ⟨g, 0, none⟩) l.length cap ∧ w6.heap.size ≤ g ∧ Blk w7 g cur 3 ∧ l.length ≤ cap ∧ ∀ m (h : m < l.length), cur[m]? = some (.int .i64 l[m]) := by
        rcases ho.2 with ⟨_, h⟩ | ⟨g, cap, cur, rfl, hb, hg, hle, _, hcs, hx⟩
        · omega
        · refine ⟨g, cap, cur, rfl, hb, hg, hle, fun m hm => ?_⟩
          have h1 := intVals_get .i64 l m hm
          rw [← hx, List.getElem?_take_of_lt (by omega)] at h1
          simpa using h1
      subst hv7
      have HCUR := Lib.hid hcur
      have a7 : w7.cell? ⟨w.heap.size, 0, none⟩ = some (.int .i64 x) := (HCX.out _ (k06.trans (k7.mono z6))).cx
      have z7 := k7.size
      have hAl := hA.lt
      clear hcur ho
      go_wp2_with fail
      refine (delf_ok hgb HCUR.out hlen hle a7 (by omega) HM.out).mono ?_; rintro e w8 ⟨n, rfl, hn, hrow, hc8⟩
      have k68 := k7.trans (hc8.below hbg z7)
      have hs6 := hS6.lt
      have hS8 := hS6.step k68
      have q5 : w8.cell? ⟨s, t * 8 + cn, none⟩ = some (.slice sa l.length sc) := (k68.cell (p := ⟨s, t * 8 + cn, none⟩) hs6).trans q1
      have q6 : w8.frozen? ⟨s, t * 8 + cn, none⟩ = false := (k68.frozen (p := ⟨s, t * 8 + cn, none⟩) hs6).trans q2
      have hset := hS8.set (t * 8 + cn) (by omega) (v := .slice (some ⟨g, 0, none⟩) n cap) (remI l x) (by rw [← hn]; exact hrow)
      have HT := Lib.hid hset
      have hcF : Chg s w (w8.setCell ⟨s, t * 8 + cn, none⟩ (.slice (some ⟨g, 0, none⟩) n cap)) := (h6.trans (.of_below k68)).setc _ _ rfl
      clear hset hrow hn hc8
      go_wp2_with fail
      go_ret2
      exact ⟨by rw [E1.out, E2.out]; rfl, by rw [E3.out, HLL.out]; exact HT.out, hcF⟩
  · have e1 : drpErr L c x = q := by
      have := HQ.out
      unfold drErr at this
      unfold drpErr
      by_cases h1 : badIn c 8 = true
      · rw [if_pos h1] at this ⊢; exact this
      · rw [if_neg h1] at this ⊢
        by_cases h2 : badIn x 256 = true
        · rw [if_pos h2] at this ⊢; exact this
        · rw [if_neg h2] at this; exact absurd this.symm h9
    have e2 : drpVal L c x = 0 := by unfold drpVal; rw [if_neg (by rw [e1]; exact h9)]
    have e3 : drpAfter L c x = L := by unfold drpAfter; rw [if_neg (by rw [e1]; exact h9)]
    have E1 := Lib.hid e1
    have E2 := Lib.hid e2
    have E3 := Lib.hid e3
    have hq0 : (q != 0) = true := by simpa using h9
    clear e1 e2 e3
    go_wp2_with fail
    go_ret2
    exact ⟨by rw [E1.out, E2.out]; rfl, by rw [E3.out]; exact hS5, hch⟩
end Go.Proofs.Ytkilmppmghkigaa
