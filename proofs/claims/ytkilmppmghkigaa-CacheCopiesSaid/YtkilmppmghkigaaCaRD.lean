/-
  Package pinfoldref18: Take, Clear. Conditions: shelves of fewer than a million.
-/
import Derived.Test.YtkilmppmghkigaaCaRB
namespace Go.Proofs.Ytkilmppmghkigaa
open Go.RowKit
attribute [local go_sem] Oper.semAt_some
set_option maxHeartbeats 4000000
set_option maxRecDepth 8000

structure CelS (b i : Nat) (v : Value) (Y : World) : Prop where
  c1 : Y.cell? ⟨b, i, none⟩ = some v
theorem shErr_t {t c : Int} (h : badIn t 4 = true) : shErr t c = 2 := by unfold shErr; rw [if_pos h]
theorem shErr_c {t c : Int} (h : badIn c 8 = true) : shErr t c = 2 := by unfold shErr; split <;> simp [h]
theorem shErr_ok {t c : Int} (h1 : badIn t 4 = false) (h2 : badIn c 8 = false) : shErr t c = 0 := by unfold shErr; simp [h1, h2]
theorem tak_no {R : Nat → List Int} {t c : Int} (h : shErr t c = 2) : takErr R t c = 2 ∧ takVal R t c = 0 ∧ takAfter R t c = R := by
  have hE : takErr R t c = 2 := by unfold takErr; rw [h]; rfl
  exact ⟨hE, by unfold takVal; rw [hE]; rfl, by unfold takAfter; rw [hE]; rfl⟩
theorem rTake_ok {B : Nat} {w : World} {cs : Array Value} {R : Nat → List Int} (hV : RefV B w cs R) (hB : B ≤ w.heap.size) (hR : ∀ i, (R i).length < 1000000) (t c : Int) :
    Calls Try.prog 37 #[.agg cs, .int .i64 t, .int .i64 c] w fun e w' => ∃ cs', e = .returned (.tuple #[.agg cs', .int .i64 (takVal R t c), .int .i64 (takErr R t c)]) ∧ RefV w'.heap.size w' cs' (takAfter R t c) ∧ Below w.heap.size w w' := by
  obtain ⟨w0, hw0⟩ : ∃ w0, (w.alloc (.cells cs 44)).alloc (.cells #[.slice none 0 0, .slice none 0 0, .slice none 0 0, .slice none 0 0, .slice none 0 0, .slice none 0 0, .slice none 0 0, .slice none 0 0, .slice none 0 0, .slice none 0 0, .slice none 0 0, .slice none 0 0, .slice none 0 0, .slice none 0 0, .slice none 0 0, .slice none 0 0, .slice none 0 0, .slice none 0 0, .slice none 0 0, .slice none 0 0, .slice none 0 0, .slice none 0 0, .slice none 0 0, .slice none 0 0, .slice none 0 0, .slice none 0 0, .slice none 0 0, .slice none 0 0, .slice none 0 0, .slice none 0 0, .slice none 0 0, .slice none 0 0] 44) = w0 := ⟨_, rfl⟩
  have hb0 : Below w.heap.size w w0 := by rw [← hw0]; exact ((Below.refl _ w).alloc (Nat.le_refl _) _).alloc (by simp) _
  have hA : Blk w0 w.heap.size cs 44 := by rw [← hw0]; exact (Blk.new w _ _).alloc _
  have hO : Blk w0 (w.heap.size + 1) #[.slice none 0 0, .slice none 0 0, .slice none 0 0, .slice none 0 0, .slice none 0 0, .slice none 0 0, .slice none 0 0, .slice none 0 0, .slice none 0 0, .slice none 0 0, .slice none 0 0, .slice none 0 0, .slice none 0 0, .slice none 0 0, .slice none 0 0, .slice none 0 0, .slice none 0 0, .slice none 0 0, .slice none 0 0, .slice none 0 0, .slice none 0 0, .slice none 0 0, .slice none 0 0, .slice none 0 0, .slice none 0 0, .slice none 0 0, .slice none 0 0, .slice none 0 0, .slice none 0 0, .slice none 0 0, .slice none 0 0, .slice none 0 0] 44 := by rw [← hw0]; exact Blk.newAt _ _ _ (by simp)
  have hV0 := hV.below hb0 hB
  go_enter Try.func37, Try.ntmps37
  go_wp2_with fail
  refine (Thread_calls t _).mono ?_; rintro e _ ⟨rfl, rfl⟩
  by_cases h1 : badIn t 4 = true
  · obtain ⟨hE, hVl, hF⟩ := tak_no (R := R) (c := c) (shErr_t h1)
    have HE := Lib.hid hE
    have HV := Lib.hid hVl
    have HF := Lib.hid hF
    clear hE hVl hF
    rw [h1]
    go_wp2_with (first | refine wpList_load32 rfl _ rfl w.heap.size rfl hA hV.size ?_ | refine wpList_store32 rfl _ _ rfl (w.heap.size + 1) cs rfl rfl hO rfl hV.size hV.one ?_)
    refine ret_c3 rfl (w.heap.size + 1) rfl (hO.setRow cs) hV.size rfl ?_
    exact ⟨cs, by rw [HV.out, HE.out]; rfl, by rw [HF.out]; exact (hV0.below (bel_setRow (Below.refl w.heap.size _) (by omega) cs) hB).mono (by have := hb0.size; rw [setRow_size]; omega), bel_setRow hb0 (by omega) cs⟩
  rw [Bool.not_eq_true] at h1
  rw [h1]
  go_wp2_with fail
  refine (Class_calls c _).mono ?_; rintro e _ ⟨rfl, rfl⟩
  by_cases h2 : badIn c 8 = true
  · obtain ⟨hE, hVl, hF⟩ := tak_no (R := R) (t := t) (shErr_c h2)
    have HE := Lib.hid hE
    have HV := Lib.hid hVl
    have HF := Lib.hid hF
    clear hE hVl hF
    rw [h2]
    go_wp2_with (first | refine wpList_load32 rfl _ rfl w.heap.size rfl hA hV.size ?_ | refine wpList_store32 rfl _ _ rfl (w.heap.size + 1) cs rfl rfl hO rfl hV.size hV.one ?_)
    refine ret_c3 rfl (w.heap.size + 1) rfl (hO.setRow cs) hV.size rfl ?_
    exact ⟨cs, by rw [HV.out, HE.out]; rfl, by rw [HF.out]; exact (hV0.below (bel_setRow (Below.refl w.heap.size _) (by omega) cs) hB).mono (by have := hb0.size; rw [setRow_size]; omega), bel_setRow hb0 (by omega) cs⟩
  rw [Bool.not_eq_true] at h2
  rw [h2]
  obtain ⟨t0, t1⟩ := badIn_false h1
  obtain ⟨c0, c1⟩ := badIn_false h2
  have h0 := shErr_ok h1 h2
  obtain ⟨a, rfl⟩ : ∃ n : Nat, t = n := ⟨t.toNat, by omega⟩
  obtain ⟨b, rfl⟩ : ∃ n : Nat, c = n := ⟨c.toNat, by omega⟩
  clear hw0
  obtain ⟨la, lc, hg, hr, _⟩ := hV0.row (a * 8 + b) (by omega)
  have hlen := hR (a * 8 + b)
  have q := hA.cell (a * 8 + b) hg
  have hfz := hA.frozen (a * 8 + b)
  by_cases hN : R (a * 8 + b) = []
  · have hE : takErr R a b = 5 := by unfold takErr; rw [if_pos h0, Int.toNat_natCast, Int.toNat_natCast, if_pos hN]
    have hVl : takVal R a b = 0 := by unfold takVal; rw [hE]; rfl
    have hF : takAfter R a b = R := by unfold takAfter; rw [hE]; rfl
    rw [hN] at q
    have HE := Lib.hid hE
    have HV := Lib.hid hVl
    have HF := Lib.hid hF
    clear hE hVl hF
    clear hN hg hr
    go_wp2_with (first | refine wpList_load32 rfl _ rfl w.heap.size rfl hA hV.size ?_ | refine wpList_store32 rfl _ _ rfl (w.heap.size + 1) cs rfl rfl hO rfl hV.size hV.one ?_)
    refine ret_c3 rfl (w.heap.size + 1) rfl (hO.setRow cs) hV.size rfl ?_
    exact ⟨cs, by rw [HV.out, HE.out]; rfl, by rw [HF.out]; exact (hV0.below (bel_setRow (Below.refl w.heap.size _) (by omega) cs) hB).mono (by have := hb0.size; rw [setRow_size]; omega), bel_setRow hb0 (by omega) cs⟩
  · obtain ⟨l, x, hl⟩ : ∃ l x, R (a * 8 + b) = l ++ [x] := ⟨_, _, (List.dropLast_concat_getLast hN).symm⟩
    have hE : takErr R a b = 0 := by unfold takErr; rw [if_pos h0, Int.toNat_natCast, Int.toNat_natCast, if_neg hN]
    have hVl : takVal R a b = x := by unfold takVal; rw [if_pos hE, Int.toNat_natCast, Int.toNat_natCast, hl]; simp
    have hF : takAfter R a b = upd R (a * 8 + b) l := by unfold takAfter; rw [if_pos hE, Int.toNat_natCast, Int.toNat_natCast, hl]; simp
    rw [hl] at hr q hlen
    obtain ⟨_, _, e9, hsc0, _⟩ := id hr
    simp only [Value.slice.injEq] at e9
    obtain ⟨rfl, _, rfl⟩ := e9
    have hsc := hsc0.1
    simp only [List.length_append, List.length_cons, List.length_nil, Nat.zero_add] at hsc q hlen
    obtain ⟨bb, off, rfl, hbb, hcell⟩ := hr.geti l.length (by simp)
    rw [List.getElem_concat_length rfl] at hcell
    have i0 : (0 : Int) ≤ l.length := by omega
    have hd : IntKind.i64.wrap ((l.length : Int) + 1 - 1) = l.length := by rw [show (l.length : Int) + 1 - 1 = l.length by omega]; exact IntWalk.i64_in _ (by omega)
    have hd2 : IntKind.i64.wrap (l.length : Int) = l.length := IntWalk.i64_in _ (by omega)
    have i1 : (l.length : Int) ≤ lc := by omega
    have i2 : (l.length : Int) < (l.length : Int) + 1 := by omega
    have hne1 : (((l.length : Int) + 1) == 0) = false := by simp; omega
    have hrf := hr.front l.length (cap' := lc) (by omega) (by simp)
    have HRF := Lib.hid hrf
    have HL := Lib.hid hl
    have HE := Lib.hid hE
    have HV := Lib.hid hVl
    have HF := Lib.hid hF
    clear hE hVl hF
    clear hN hg hr hrf hl hsc0
    have z1 := hb0.size
    have z2 : w.heap.size + 1 < w0.heap.size := hO.lt
    go_wp2_with fail
    refine wp_region_held_drew (S := fun _ => True) (by kernel_rfl) trivial (fun hHeld => ?_)
    have qd : w0.drew.cell? ⟨w.heap.size, a * 8 + b, none⟩ = some (.slice (some ⟨bb, off, none⟩) (l.length + 1) lc) := q
    have fd : w0.drew.frozen? ⟨w.heap.size, a * 8 + b, none⟩ = false := hfz
    refine wpAnyH_take (i := 0) (v := ?_) rfl (by kernel_rfl) (by kernel_rfl) (by kernel_rfl) (fun _ _ _ h => h) (Or.inl ⟨by rfl, ?_⟩) (by assumption) ?_
    rotate_left
    · (intro Y hSw; (try dsimp only at hSw); obtain _ := hSw; go_simp; try with_reducible rfl)
    try simp only [Act.put, List.getElem_toArray, List.getElem_cons_zero, List.getElem_cons_succ, List.setIfInBounds_toArray, List.set_cons_zero, List.set_cons_succ]
    refine wpAnyH_take (i := 1) (v := ?_) rfl (by kernel_rfl) (by kernel_rfl) (by kernel_rfl) (fun _ _ _ h => h) (Or.inl ⟨by rfl, ?_⟩) (by assumption) ?_
    rotate_left
    · (intro Y hSw; (try dsimp only at hSw); obtain _ := hSw; go_simp; try with_reducible rfl)
    try simp only [Act.put, List.getElem_toArray, List.getElem_cons_zero, List.getElem_cons_succ, List.setIfInBounds_toArray, List.set_cons_zero, List.set_cons_succ]
    refine wpAnyH_take (i := 2) (v := ?_) rfl (by kernel_rfl) (by kernel_rfl) (by kernel_rfl) (fun _ _ _ h => h) (Or.inl ⟨by rfl, ?_⟩) (by assumption) ?_
    rotate_left
    · (intro Y hSw; (try dsimp only at hSw); obtain _ := hSw; go_simp; try with_reducible rfl)
    try simp only [Act.put, List.getElem_toArray, List.getElem_cons_zero, List.getElem_cons_succ, List.setIfInBounds_toArray, List.set_cons_zero, List.set_cons_succ]
    refine wpAnyH_take (i := 3) (v := ?_) rfl (by kernel_rfl) (by kernel_rfl) (by kernel_rfl) (fun _ _ _ h => h) (Or.inl ⟨by rfl, ?_⟩) (by assumption) ?_
    rotate_left
    · (intro Y hSw; (try dsimp only at hSw); obtain _ := hSw; go_simp; try with_reducible rfl)
    try simp only [Act.put, List.getElem_toArray, List.getElem_cons_zero, List.getElem_cons_succ, List.setIfInBounds_toArray, List.set_cons_zero, List.set_cons_succ]
    refine wpAnyH_take (i := 4) (v := ?_) rfl (by kernel_rfl) (by kernel_rfl) (by kernel_rfl) (fun _ _ _ h => h) (Or.inl ⟨by rfl, ?_⟩) (by assumption) ?_
    rotate_left
    · (intro Y hSw; (try dsimp only at hSw); obtain _ := hSw; go_simp; try with_reducible rfl)
    try simp only [Act.put, List.getElem_toArray, List.getElem_cons_zero, List.getElem_cons_succ, List.setIfInBounds_toArray, List.set_cons_zero, List.set_cons_succ]
    refine wpAnyH_take (i := 5) (v := ?_) rfl (by kernel_rfl) (by kernel_rfl) (by kernel_rfl) (fun _ _ _ h => h) (Or.inl ⟨by rfl, ?_⟩) (by assumption) ?_
    rotate_left
    · (intro Y hSw; (try dsimp only at hSw); obtain _ := hSw; go_simp; try with_reducible rfl)
    try simp only [Act.put, List.getElem_toArray, List.getElem_cons_zero, List.getElem_cons_succ, List.setIfInBounds_toArray, List.set_cons_zero, List.set_cons_succ]
    refine wpAnyH_take (i := 6) (v := ?_) rfl (by kernel_rfl) (by kernel_rfl) (by kernel_rfl) (fun _ _ _ h => h) (Or.inl ⟨by rfl, ?_⟩) (by assumption) ?_
    rotate_left
    · (intro Y hSw; (try dsimp only at hSw); obtain _ := hSw; go_simp; try with_reducible rfl)
    try simp only [Act.put, List.getElem_toArray, List.getElem_cons_zero, List.getElem_cons_succ, List.setIfInBounds_toArray, List.set_cons_zero, List.set_cons_succ]
    refine wpAnyH_take (i := 7) (v := ?_) rfl (by kernel_rfl) (by kernel_rfl) (by kernel_rfl) (fun _ _ _ h => h) (Or.inl ⟨by rfl, ?_⟩) (by assumption) ?_
    rotate_left
    · (intro Y hSw; (try dsimp only at hSw); obtain _ := hSw; go_simp; try with_reducible rfl)
    try simp only [Act.put, List.getElem_toArray, List.getElem_cons_zero, List.getElem_cons_succ, List.setIfInBounds_toArray, List.set_cons_zero, List.set_cons_succ]
    refine wpAnyH_take (i := 8) (v := ?_) rfl (by kernel_rfl) (by kernel_rfl) (by kernel_rfl) (fun _ _ _ h => h) (Or.inl ⟨by rfl, ?_⟩) (by assumption) ?_
    rotate_left
    · (intro Y hSw; (try dsimp only at hSw); obtain _ := hSw; go_simp; try with_reducible rfl)
    try simp only [Act.put, List.getElem_toArray, List.getElem_cons_zero, List.getElem_cons_succ, List.setIfInBounds_toArray, List.set_cons_zero, List.set_cons_succ]
    refine wpAnyH_ready (rs := [9]) (by kernel_rfl) (by simp) ?_
    refine AllReadyH.cons rfl (fun K hK => ?_) AllReadyH.nil
    go_simp
    refine hK.out _ _ (trivial) (fun hHeld => ?_)
    clear hK K
    try simp only [Act.put, List.getElem_toArray, List.getElem_cons_zero, List.getElem_cons_succ, List.setIfInBounds_toArray, List.set_cons_zero, List.set_cons_succ]
    refine wpAnyH_done (by kernel_rfl) ?_ _
    have hA3 := hA.set (a * 8 + b) (.slice (some ⟨bb, off, none⟩) l.length lc)
    have hO3 := hO.setOther ⟨w.heap.size, a * 8 + b, none⟩ (.slice (some ⟨bb, off, none⟩) l.length lc) (by show w.heap.size + 1 ≠ w.heap.size; omega)
    have k3 : Below w.heap.size w (w0.setCell ⟨w.heap.size, a * 8 + b, none⟩ (.slice (some ⟨bb, off, none⟩) l.length lc)) := hb0.setCell (Nat.le_refl _) _
    have hx3 : (w0.setCell ⟨w.heap.size, a * 8 + b, none⟩ (.slice (some ⟨bb, off, none⟩) l.length lc)).cell? ⟨bb, off + l.length, none⟩ = some (.int .i64 x) := (World.cell?_setCell_far w0 ⟨w.heap.size, a * 8 + b, none⟩ ⟨bb, off + l.length, none⟩ _ (by show w.heap.size ≠ bb; omega)).trans hcell
    have hV3 := (hV.below k3 hB).set (a * 8 + b) (by omega) l rfl (HRF.out.below ((Below.refl w.heap.size w0).setCell (p := ⟨w.heap.size, a * 8 + b, none⟩) (Nat.le_refl _) (.slice (some ⟨bb, off, none⟩) l.length lc)) hB) (plain_some _ _)
    clear q qd fd hfz hcell hA
    generalize w0.setCell ⟨w.heap.size, a * 8 + b, none⟩ (.slice (some ⟨bb, off, none⟩) l.length lc) = W3 at hA3 hO3 k3 hx3 hV3 ⊢
    generalize cs.setIfInBounds (a * 8 + b) (.slice (some ⟨bb, off, none⟩) l.length lc) = cs3 at hA3 hV3
    go_wp2_with fail
    refine wp_region_held_drew (S := CelS bb (off + l.length) (.int .i64 x)) (by kernel_rfl) ⟨hx3⟩ (fun hHeld => ?_)
    refine wpAnyH_take (i := 1) (v := ?_) rfl (by kernel_rfl) (by kernel_rfl) (by kernel_rfl) (fun _ _ _ h => h) (Or.inl ⟨by rfl, ?_⟩) (by assumption) ?_
    rotate_left
    · (intro Y hSw; (try dsimp only at hSw); obtain ⟨hS1⟩ := hSw; go_simp; try with_reducible rfl)
    try simp only [Act.put, List.getElem_toArray, List.getElem_cons_zero, List.getElem_cons_succ, List.setIfInBounds_toArray, List.set_cons_zero, List.set_cons_succ]
    refine wpAnyH_take (i := 2) (v := ?_) rfl (by kernel_rfl) (by kernel_rfl) (by kernel_rfl) (fun _ _ _ h => h) (Or.inl ⟨by rfl, ?_⟩) (by assumption) ?_
    rotate_left
    · (intro Y hSw; (try dsimp only at hSw); obtain ⟨hS1⟩ := hSw; go_simp; try with_reducible rfl)
    try simp only [Act.put, List.getElem_toArray, List.getElem_cons_zero, List.getElem_cons_succ, List.setIfInBounds_toArray, List.set_cons_zero, List.set_cons_succ]
    refine wpAnyH_take (i := 3) (v := ?_) rfl (by kernel_rfl) (by kernel_rfl) (by kernel_rfl) (fun _ _ _ h => h) (Or.inl ⟨by rfl, ?_⟩) (by assumption) ?_
    rotate_left
    · (intro Y hSw; (try dsimp only at hSw); obtain ⟨hS1⟩ := hSw; go_simp; try with_reducible rfl)
    try simp only [Act.put, List.getElem_toArray, List.getElem_cons_zero, List.getElem_cons_succ, List.setIfInBounds_toArray, List.set_cons_zero, List.set_cons_succ]
    refine wpAnyH_take (i := 4) (v := ?_) rfl (by kernel_rfl) (by kernel_rfl) (by kernel_rfl) (fun _ _ _ h => h) (Or.inl ⟨by rfl, ?_⟩) (by assumption) ?_
    rotate_left
    · (intro Y hSw; (try dsimp only at hSw); obtain ⟨hS1⟩ := hSw; go_simp; try with_reducible rfl)
    try simp only [Act.put, List.getElem_toArray, List.getElem_cons_zero, List.getElem_cons_succ, List.setIfInBounds_toArray, List.set_cons_zero, List.set_cons_succ]
    refine wpAnyH_take (i := 5) (v := ?_) rfl (by kernel_rfl) (by kernel_rfl) (by kernel_rfl) (fun _ _ _ h => h) (Or.inl ⟨by rfl, ?_⟩) (by assumption) ?_
    rotate_left
    · (intro Y hSw; (try dsimp only at hSw); obtain ⟨hS1⟩ := hSw; go_simp; try with_reducible rfl)
    try simp only [Act.put, List.getElem_toArray, List.getElem_cons_zero, List.getElem_cons_succ, List.setIfInBounds_toArray, List.set_cons_zero, List.set_cons_succ]
    refine wpAnyH_take (i := 6) (v := ?_) rfl (by kernel_rfl) (by kernel_rfl) (by kernel_rfl) (fun _ _ _ h => h) (Or.inl ⟨by rfl, ?_⟩) (by assumption) ?_
    rotate_left
    · (intro Y hSw; (try dsimp only at hSw); obtain ⟨hS1⟩ := hSw; go_simp; try with_reducible rfl)
    try simp only [Act.put, List.getElem_toArray, List.getElem_cons_zero, List.getElem_cons_succ, List.setIfInBounds_toArray, List.set_cons_zero, List.set_cons_succ]
    refine wpAnyH_ready (rs := [0]) (by kernel_rfl) (by simp) ?_
    refine AllReadyH.cons rfl (fun K hK => ?_) AllReadyH.nil
    rw [if_pos (by rfl)]
    refine wp_load32 _ rfl w.heap.size rfl hA3.drew.drew hV3.size ?_
    refine hK.out _ _ (⟨hx3⟩) (fun hHeld => ?_)
    clear hK K
    try simp only [Act.put, List.getElem_toArray, List.getElem_cons_zero, List.getElem_cons_succ, List.setIfInBounds_toArray, List.set_cons_zero, List.set_cons_succ]
    refine wpAnyH_ready (rs := [7]) (by kernel_rfl) (by simp) ?_
    refine AllReadyH.cons rfl (fun K hK => ?_) AllReadyH.nil
    rw [if_pos (by rfl)]
    refine wp_store32 _ _ rfl (w.heap.size + 1) cs3 rfl rfl hO3.drew.drew rfl hV3.size hV3.one ?_
    refine hK.out _ _ (⟨(cell_setRow_other W3.drew.drew (w.heap.size + 1) cs3 ⟨bb, off + l.length, none⟩ (by show bb ≠ w.heap.size + 1; omega)).trans hx3⟩) (fun hHeld => ?_)
    clear hK K
    try simp only [Act.put, List.getElem_toArray, List.getElem_cons_zero, List.getElem_cons_succ, List.setIfInBounds_toArray, List.set_cons_zero, List.set_cons_succ]
    refine wpAnyH_take (i := 8) (v := ?_) rfl (by kernel_rfl) (by kernel_rfl) (by kernel_rfl) (fun _ _ _ h => h) (Or.inl ⟨by rfl, ?_⟩) (by assumption) ?_
    rotate_left
    · (intro Y hSw; (try dsimp only at hSw); obtain ⟨hS1⟩ := hSw; go_simp; try with_reducible rfl)
    try simp only [Act.put, List.getElem_toArray, List.getElem_cons_zero, List.getElem_cons_succ, List.setIfInBounds_toArray, List.set_cons_zero, List.set_cons_succ]
    refine wpAnyH_take (i := 9) (v := ?_) rfl (by kernel_rfl) (by kernel_rfl) (by kernel_rfl) (fun _ _ _ h => h) (Or.inl ⟨by rfl, ?_⟩) (by assumption) ?_
    rotate_left
    · (intro Y hSw; (try dsimp only at hSw); obtain ⟨hS1⟩ := hSw; go_simp; try with_reducible rfl)
    try simp only [Act.put, List.getElem_toArray, List.getElem_cons_zero, List.getElem_cons_succ, List.setIfInBounds_toArray, List.set_cons_zero, List.set_cons_succ]
    refine wpAnyH_done (by kernel_rfl) ?_ _
    go_wp2_with fail
    refine ret_c3 rfl (w.heap.size + 1) rfl (hO3.drew.drew.setRow cs3) hV3.size rfl ?_
    exact ⟨cs3, by rw [HV.out, HE.out]; rfl, by rw [HF.out]; exact (hV3.below (bel_setRow (Below.refl w.heap.size _).drew.drew (by omega) cs3) hB).mono (by have := k3.size; rw [setRow_size]; show B ≤ W3.heap.size; omega), bel_setRow k3.drew.drew (by omega) cs3⟩
end Go.Proofs.Ytkilmppmghkigaa
