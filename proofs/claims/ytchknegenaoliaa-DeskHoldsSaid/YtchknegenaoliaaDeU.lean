/-
  Package pinfoldref21: Threads, Create, Bind. No condition.
-/
import Derived.Test.YtchknegenaoliaaDeT
namespace Go.Proofs.Ytchknegenaoliaa
open Go.RowKit
attribute [local go_sem] Oper.semAt_some
set_option maxHeartbeats 1000000
set_option maxRecDepth 4000

/-- The threads, of the first k, that are bound to a handle. -/
def rThrTo (H : List Hnd) (h : Hnd) : Nat → List Int
  | 0 => []
  | k + 1 => if hndD H k = h then rThrTo H h k ++ [(k : Int)] else rThrTo H h k
def rThr (P : List Ten) (H : List Hnd) (h : Hnd) : List Int := if chkE P h = 0 then rThrTo H h 4 else []
theorem rThrTo_len (H : List Hnd) (h : Hnd) : ∀ k, (rThrTo H h k).length ≤ k
  | 0 => Nat.le_refl _
  | k + 1 => by
    have := rThrTo_len H h k
    rw [rThrTo]
    split
    · simp; omega
    · omega
theorem intVals_snoc (l : List Int) (x : Int) : intVals .i64 (l ++ [x]) = intVals .i64 l ++ [.int .i64 x] := by simp [intVals]
structure RtS (p q k : Nat) (x h : Hnd) (Y : World) : Prop where
  s : Y.cell? ⟨q, 0, none⟩ = some (.int .i64 h.s)
  g : Y.cell? ⟨q, 1, none⟩ = some (.int .i64 h.g)
  c0 : Y.cell? ⟨p, 16 + k * 2, none⟩ = some (.int .i64 x.s)
  c1 : Y.cell? ⟨p, 16 + k * 2 + 1, none⟩ = some (.int .i64 x.g)
theorem rThreads_ok {P : List Ten} {H : List Hnd} (hL : RefL P H) (h : Hnd) (w : World) :
    Calls Try.prog 53 #[.agg (refV P H), .agg #[.int .i64 h.s, .int .i64 h.g]] w fun e w' => ∃ v, e = .returned v ∧ w'.ownsRow w.heap.size 3 1 v (rThr P H h).length (intVals .i64 (rThr P H h)) ∧ Below w.heap.size w w' := by
  obtain ⟨w0, hw0⟩ : ∃ w0, (w.alloc (.cells (refV P H) 52)).alloc (.cells #[.int .i64 h.s, .int .i64 h.g] 28) = w0 := ⟨_, rfl⟩
  have k0 : Below w.heap.size w w0 := by rw [← hw0]; exact ((Below.refl _ w).alloc (Nat.le_refl _) _).alloc (by simp) _
  have hA : Blk w0 w.heap.size (refV P H) 52 := by rw [← hw0]; exact (Blk.new w _ _).alloc _
  have hH : Blk w0 (w.heap.size + 1) #[.int .i64 h.s, .int .i64 h.g] 28 := by rw [← hw0]; exact Blk.newAt _ _ _ (by simp)
  have z0 : w0.heap.size = w.heap.size + 2 := by rw [← hw0]; simp
  have hown0 : w0.ownsRow (w.heap.size + 2) 3 1 (.slice none 0 0) 0 [] := ⟨rfl, .inl ⟨rfl, rfl⟩⟩
  obtain ⟨s, hs⟩ : ∃ s, w.heap.size = s := ⟨_, rfl⟩
  have HS := Lib.hid hs
  rw [hs] at hA hH z0 hown0 k0
  obtain ⟨q, hq⟩ : ∃ q, chkE P h = q := ⟨_, rfl⟩
  have hr : rThr P H h = if q = 0 then rThrTo H h 4 else [] := by unfold rThr; rw [hq]
  have HR := Lib.hid hr
  have HQ := Lib.hid hq
  have hsz := hL.size
  have HSZ := Lib.hid hsz
  clear hq hr hsz
  go_enter Try.func53, Try.ntmps53
  go_wp2_with fail
  clear hw0 hs
  go_loopw [5, 6] (fun v i wr => ∃ k : Nat, k ≤ 4 ∧ i = .int .i64 k ∧ (q ≠ 0 → k = 0) ∧ wr.ownsRow (s + 2) 3 1 v (rThrTo H h k).length (intVals .i64 (rThrTo H h k)) ∧ Below (s + 2) w0 wr) (fun _ i _ => 4 - (intOf i).toNat)
  case atStart => exact ⟨0, by omega, rfl, fun _ => rfl, hown0, Below.refl _ _⟩
  case round =>
    obtain ⟨k, hk, rfl, hq0, hown, hb⟩ := hrel
    clear hown0
    have hAr := hA.below hb (by omega)
    have hHr := hH.below hb (by omega)
    have HW := Lib.hid hown
    have c0 : World.cell? _ ⟨s + 1, 0, none⟩ = some (.int .i64 h.s) := hHr.cell 0 rfl
    have c1 : World.cell? _ ⟨s + 1, 1, none⟩ = some (.int .i64 h.g) := hHr.cell 1 rfl
    have hz := hb.size
    clear hown
    rename_i wr
    by_cases hlt : k < 4
    · have i0 : (0 : Int) ≤ k := by omega
      have i1 : (k : Int) < 4 := by omega
      go_wp2_with (first | refine wpList_loadW ty24 (by rfl) _ rfl s rfl hAr HSZ.out ?_)
      refine (rCheck_ok hL h wr).mono ?_; rintro e w3 ⟨rfl, k3⟩
      rw [HQ.out]
      have hA3 := hAr.below k3 hAr.lt
      have hH3 := hHr.below k3 hHr.lt
      have hb3 := hb.trans (k3.mono (by omega))
      have ho3 := owns_below HW.out k3 (Nat.le_refl _)
      have HW3 := Lib.hid ho3
      have hz3 := k3.size
      clear hAr hHr c0 c1 ho3 HW k3
      by_cases h9 : q = 0
      · subst h9
        obtain ⟨q0, q1⟩ := refV_hnd hL k hlt
        have r0 := hA3.cell _ q0
        have r1 := hA3.cell _ q1
        have hst : rThrTo H h (k + 1) = if hndD H k = h then rThrTo H h k ++ [(k : Int)] else rThrTo H h k := rfl
        have hlen := rThrTo_len H h k
        generalize hndD H k = x at r0 r1 hst
        have hsS : RtS s (s + 1) k x h w3.drew := ⟨hH3.cell 0 rfl, hH3.cell 1 rfl, r0, r1⟩
        clear q0 q1 r0 r1 hA3 hH3
        have hb4 := hb3.drew
        have ho4 : World.ownsRow w3.drew _ _ _ _ _ _ := owns_below HW3.out (Below.refl _ w3).drew (Nat.le_refl _)
        have HW4 := Lib.hid ho4
        clear ho4 HW3 hb3
        by_cases hx : x = h
        · rw [if_pos hx] at hst
          have HST := Lib.hid hst
          subst hx
          clear hst
          go_wp2_with fail
          refine wp_onlyN ?_
          refine wp_region_held_drew (S := RtS s (s + 1) k x x) (by kernel_rfl) hsS (fun hHeld => ?_)
          refine wpAnyH_take (i := 0) (v := ?_) rfl (by kernel_rfl) (by kernel_rfl) (by kernel_rfl) (fun _ _ _ h => h) (Or.inl ⟨by rfl, ?_⟩) (by assumption) ?_
          rotate_left
          · (intro Y hSw; (try dsimp only at hSw); obtain ⟨hS0, hS1, hS2, hS3⟩ := hSw; go_simp; try with_reducible rfl)
          try simp only [Act.put, List.getElem_toArray, List.getElem_cons_zero, List.getElem_cons_succ, List.setIfInBounds_toArray, List.set_cons_zero, List.set_cons_succ]
          refine wpAnyH_take (i := 1) (v := ?_) rfl (by kernel_rfl) (by kernel_rfl) (by kernel_rfl) (fun _ _ _ h => h) (Or.inl ⟨by rfl, ?_⟩) (by assumption) ?_
          rotate_left
          · (intro Y hSw; (try dsimp only at hSw); obtain ⟨hS0, hS1, hS2, hS3⟩ := hSw; go_simp; try with_reducible rfl)
          try simp only [Act.put, List.getElem_toArray, List.getElem_cons_zero, List.getElem_cons_succ, List.setIfInBounds_toArray, List.set_cons_zero, List.set_cons_succ]
          refine wpAnyH_take (i := 2) (v := ?_) rfl (by kernel_rfl) (by kernel_rfl) (by kernel_rfl) (fun _ _ _ h => h) (Or.inl ⟨by rfl, ?_⟩) (by assumption) ?_
          rotate_left
          · (intro Y hSw; (try dsimp only at hSw); obtain ⟨hS0, hS1, hS2, hS3⟩ := hSw; go_simp; try with_reducible rfl)
          try simp only [Act.put, List.getElem_toArray, List.getElem_cons_zero, List.getElem_cons_succ, List.setIfInBounds_toArray, List.set_cons_zero, List.set_cons_succ]
          refine wpAnyH_take (i := 3) (v := ?_) rfl (by kernel_rfl) (by kernel_rfl) (by kernel_rfl) (fun _ _ _ h => h) (Or.inl ⟨by rfl, ?_⟩) (by assumption) ?_
          rotate_left
          · (intro Y hSw; (try dsimp only at hSw); obtain ⟨hS0, hS1, hS2, hS3⟩ := hSw; go_simp; try with_reducible rfl)
          try simp only [Act.put, List.getElem_toArray, List.getElem_cons_zero, List.getElem_cons_succ, List.setIfInBounds_toArray, List.set_cons_zero, List.set_cons_succ]
          refine wpAnyH_take (i := 4) (v := ?_) rfl (by kernel_rfl) (by kernel_rfl) (by kernel_rfl) (fun _ _ _ h => h) (Or.inl ⟨by rfl, ?_⟩) (by assumption) ?_
          rotate_left
          · (intro Y hSw; (try dsimp only at hSw); obtain ⟨hS0, hS1, hS2, hS3⟩ := hSw; go_simp; try with_reducible rfl)
          try simp only [Act.put, List.getElem_toArray, List.getElem_cons_zero, List.getElem_cons_succ, List.setIfInBounds_toArray, List.set_cons_zero, List.set_cons_succ]
          refine wpAnyH_take (i := 5) (v := ?_) rfl (by kernel_rfl) (by kernel_rfl) (by kernel_rfl) (fun _ _ _ h => h) (Or.inl ⟨by rfl, ?_⟩) (by assumption) ?_
          rotate_left
          · (intro Y hSw; (try dsimp only at hSw); obtain ⟨hS0, hS1, hS2, hS3⟩ := hSw; go_simp; try with_reducible rfl)
          try simp only [Act.put, List.getElem_toArray, List.getElem_cons_zero, List.getElem_cons_succ, List.setIfInBounds_toArray, List.set_cons_zero, List.set_cons_succ]
          refine wpAnyH_done (by kernel_rfl) ?_ _
          rw [onlyN_normal]
          have hz4 : w3.heap.size = w3.drew.heap.size := rfl
          rw [hz4] at hz3
          generalize w3.drew = w4 at hb4 HW4 hz3 ⊢
          generalize rThrTo H x k = ys at HW4 HST hlen ⊢
          have ha1 := owns_below HW4.out ((Below.refl _ w4).alloc (Nat.le_refl _) (.cells #[.int .i64 k] 3)) (Nat.le_refl _)
          clear hz4 hHeld hsS
          go_wp2_with (at_builtin; refine wpList_append_row rfl _ _ 35 rfl (s + 2) Try.underlying35 info64 ys.length (intVals .i64 ys) rfl ha1 (w4.heap.size + 1) 1 [.int .i64 k] rfl (RowAt.lit w4 #[.int .i64 k] 3 1 _ (by omega)) rfl ?c4 ?c5 ?c6 ?c7 ?_)
          case c4 => first | exact rfl | (intro u hu; simp at hu; subst hu; rfl)
          case c5 => unfold maxLen; omega
          case c6 => omega
          case c7 => first | omega | (simp; omega)
          intro v2 w5 ho2 hg2
          have k5 := (hb4.alloc (by omega) (.cells #[.int .i64 k] 3)).appended ha1 hg2 (Nat.le_refl _) (by simp; omega)
          clear ha1 hg2
          go_wp2_with fail
          exact ⟨⟨k + 1, by omega, by go_num, fun h => absurd rfl h, by rw [HST.out, List.length_append, intVals_snoc]; exact ho2, k5⟩, by simp [intOf]; omega⟩
        · rw [if_neg hx] at hst
          have HST := Lib.hid hst
          have HX := Lib.hid hx
          clear hst hx
          go_wp2_with fail
          refine wp_onlyN ?_
          refine wp_region_held_drew (S := RtS s (s + 1) k x h) (by kernel_rfl) hsS (fun hHeld => ?_)
          refine wpAnyH_take (i := 0) (v := ?_) rfl (by kernel_rfl) (by kernel_rfl) (by kernel_rfl) (fun _ _ _ h => h) (Or.inl ⟨by rfl, ?_⟩) (by assumption) ?_
          rotate_left
          · (intro Y hSw; (try dsimp only at hSw); obtain ⟨hS0, hS1, hS2, hS3⟩ := hSw; go_simp; try with_reducible rfl)
          try simp only [Act.put, List.getElem_toArray, List.getElem_cons_zero, List.getElem_cons_succ, List.setIfInBounds_toArray, List.set_cons_zero, List.set_cons_succ]
          refine wpAnyH_take (i := 1) (v := ?_) rfl (by kernel_rfl) (by kernel_rfl) (by kernel_rfl) (fun _ _ _ h => h) (Or.inl ⟨by rfl, ?_⟩) (by assumption) ?_
          rotate_left
          · (intro Y hSw; (try dsimp only at hSw); obtain ⟨hS0, hS1, hS2, hS3⟩ := hSw; go_simp; try with_reducible rfl)
          try simp only [Act.put, List.getElem_toArray, List.getElem_cons_zero, List.getElem_cons_succ, List.setIfInBounds_toArray, List.set_cons_zero, List.set_cons_succ]
          refine wpAnyH_take (i := 2) (v := ?_) rfl (by kernel_rfl) (by kernel_rfl) (by kernel_rfl) (fun _ _ _ h => h) (Or.inl ⟨by rfl, ?_⟩) (by assumption) ?_
          rotate_left
          · (intro Y hSw; (try dsimp only at hSw); obtain ⟨hS0, hS1, hS2, hS3⟩ := hSw; go_simp; try with_reducible rfl)
          try simp only [Act.put, List.getElem_toArray, List.getElem_cons_zero, List.getElem_cons_succ, List.setIfInBounds_toArray, List.set_cons_zero, List.set_cons_succ]
          refine wpAnyH_take (i := 3) (v := ?_) rfl (by kernel_rfl) (by kernel_rfl) (by kernel_rfl) (fun _ _ _ h => h) (Or.inl ⟨by rfl, ?_⟩) (by assumption) ?_
          rotate_left
          · (intro Y hSw; (try dsimp only at hSw); obtain ⟨hS0, hS1, hS2, hS3⟩ := hSw; go_simp; try with_reducible rfl)
          try simp only [Act.put, List.getElem_toArray, List.getElem_cons_zero, List.getElem_cons_succ, List.setIfInBounds_toArray, List.set_cons_zero, List.set_cons_succ]
          refine wpAnyH_take (i := 4) (v := ?_) rfl (by kernel_rfl) (by kernel_rfl) (by kernel_rfl) (fun _ _ _ h => h) (Or.inl ⟨by rfl, ?_⟩) (by assumption) ?_
          rotate_left
          · (intro Y hSw; (try dsimp only at hSw); obtain ⟨hS0, hS1, hS2, hS3⟩ := hSw; go_simp; try with_reducible rfl)
          try simp only [Act.put, List.getElem_toArray, List.getElem_cons_zero, List.getElem_cons_succ, List.setIfInBounds_toArray, List.set_cons_zero, List.set_cons_succ]
          refine wpAnyH_take (i := 5) (v := .bool false) rfl (by kernel_rfl) (by kernel_rfl) (by kernel_rfl) (fun _ _ _ h => h) (Or.inl ⟨by rfl, by intro Y hSw; obtain ⟨xs, xg⟩ := x; obtain ⟨hs, hg⟩ := h; go_simp; intro e1 e2; exact HX.out (by rw [e1, e2])⟩) (by assumption) ?_
          try simp only [Act.put, List.getElem_toArray, List.getElem_cons_zero, List.getElem_cons_succ, List.setIfInBounds_toArray, List.set_cons_zero, List.set_cons_succ]
          refine wpAnyH_done (by kernel_rfl) ?_ _
          rw [onlyN_normal]
          go_wp2_with fail
          exact ⟨⟨k + 1, by omega, by go_num, fun h => absurd rfl h, by rw [HST.out]; exact HW4.out, hb4⟩, by simp [intOf]; omega⟩
      · obtain rfl := hq0 h9
        have HB := Lib.hid (owns_weaken HW3.out (by omega : s ≤ s + 2))
        obtain ⟨a2, c2, e2, _⟩ := (RowAt.of_owns HW3.out (Nat.le_refl _)).len
        subst e2
        go_wp2_with fail
        go_ret
        exact ⟨_, rfl, by rw [HS.out, HR.out, if_neg h9]; exact HB.out, by rw [HS.out]; exact k0.trans (hb3.mono (by omega))⟩
    · obtain rfl : k = 4 := by omega
      have hq9 : q = 0 := by
        by_cases h9 : q = 0
        · exact h9
        · exact absurd (hq0 h9) (by decide)
      have HB := Lib.hid (owns_weaken HW.out (by omega : s ≤ s + 2))
      obtain ⟨a2, c2, e2, _⟩ := (RowAt.of_owns HW.out (Nat.le_refl _)).len
      subst e2
      go_wp2_with fail
      go_ret
      exact ⟨_, rfl, by rw [HS.out, HR.out, if_pos hq9]; exact HB.out, by rw [HS.out]; exact k0.trans (hb.mono (by omega))⟩
end Go.Proofs.Ytchknegenaoliaa
