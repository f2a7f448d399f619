/-
  Package pinfoldref18: Spill. Conditions: shelves of fewer than a million.
-/
import Derived.Test.YtkilmppmghkigaaCaRD
namespace Go.Proofs.Ytkilmppmghkigaa
open Go.RowKit
attribute [local go_sem] Oper.semAt_some
set_option maxHeartbeats 4000000
set_option maxRecDepth 8000

theorem RowAt.upTo {B cap bb off : Nat} {W : World} {l : List Int} (h : RowAt B W (.slice (some ⟨bb, off, none⟩) l.length cap) l.length (intVals .i64 l)) (n : Nat) (hn : n ≤ l.length) : RowAt B W (.slice (some ⟨bb, off, none⟩) n cap) n (intVals .i64 (l.take n)) := by
  obtain ⟨_, c, hv, hc, _⟩ := id h
  simp only [Value.slice.injEq] at hv
  obtain ⟨_, _, rfl⟩ := hv
  rw [← List.take_append_drop n l] at h
  rw [List.take_append_drop n l] at h
  have h2 : RowAt B W (.slice (some ⟨bb, off, none⟩) l.length cap) l.length (intVals .i64 (l.take n ++ l.drop n)) := by rw [List.take_append_drop]; exact h
  exact h2.front n (by have := hc.1; omega) (by rw [List.length_take]; omega)
theorem RowAt.le {B n cap : Nat} {W : World} {a : Option Addr} {xs : List Value} (h : RowAt B W (.slice a n cap) n xs) : n ≤ cap := by
  obtain ⟨_, c, e, h⟩ := h.len
  have := (Value.slice.inj e).2.2
  omega
theorem RowAt.onFrom {B cap bb off : Nat} {W : World} {l : List Int} (h : RowAt B W (.slice (some ⟨bb, off, none⟩) l.length cap) l.length (intVals .i64 l)) (n : Nat) (hn : n ≤ l.length) : RowAt B W (.slice (if cap = n then some ⟨bb, off, none⟩ else some ⟨bb, off + n, none⟩) (l.length - n) (cap - n)) (l.length - n) (intVals .i64 (l.drop n)) := by
  have hc := h.le
  have h2 : RowAt B W (.slice (some ⟨bb, off, none⟩) l.length cap) l.length (intVals .i64 (l.take n ++ l.drop n)) := by rw [List.take_append_drop]; exact h
  have h3 := h2.rear (cap' := cap - n) (l.length - n) n (by omega) (by rw [List.length_take]; omega)
  by_cases e : cap = n
  · rw [if_pos e]
    have hd : l.drop n = [] := List.drop_of_length_le (by omega)
    rw [hd, show l.length - n = 0 by omega]
    exact ⟨_, cap - n, rfl, ⟨by omega, fun h => by cases h⟩, .inl rfl⟩
  · rw [if_neg e]; exact h3
theorem row_none {B n c : Nat} {W : World} {l : List Int} (h : RowAt B W (.slice none n c) n (intVals .i64 l)) : l = [] ∧ c = 0 := by
  obtain ⟨a, c', e, hc, h⟩ := h
  obtain ⟨rfl, _, rfl⟩ := Value.slice.inj e
  obtain ⟨rfl, rfl⟩ := hc.2 rfl
  rcases h with h | ⟨b, off, h, _⟩
  · refine ⟨?_, rfl⟩
    have := congrArg List.length h
    rw [intVals_len] at this
    exact List.eq_nil_of_length_eq_zero this
  · cases h
theorem rSpill_ok {B : Nat} {w : World} {cs : Array Value} {R : Nat → List Int} (hV : RefV B w cs R) (hB : B ≤ w.heap.size) (hR : ∀ i, (R i).length < 1000000) (t c : Int) :
    Calls Try.prog 38 #[.agg cs, .int .i64 t, .int .i64 c] w fun e w' => ∃ cs' v, e = .returned (.tuple #[.agg cs', v, .int .i64 (shErr t c)]) ∧ RefV w'.heap.size w' cs' (splAfter R t c) ∧ RowAt w'.heap.size w' v (splL R t c).length (intVals .i64 (splL R t c)) ∧ Below w.heap.size w w' := by
  obtain ⟨w0, hw0⟩ : ∃ w0, (w.alloc (.cells cs 44)).alloc (.cells #[.slice none 0 0, .slice none 0 0, .slice none 0 0, .slice none 0 0, .slice none 0 0, .slice none 0 0, .slice none 0 0, .slice none 0 0, .slice none 0 0, .slice none 0 0, .slice none 0 0, .slice none 0 0, .slice none 0 0, .slice none 0 0, .slice none 0 0, .slice none 0 0, .slice none 0 0, .slice none 0 0, .slice none 0 0, .slice none 0 0, .slice none 0 0, .slice none 0 0, .slice none 0 0, .slice none 0 0, .slice none 0 0, .slice none 0 0, .slice none 0 0, .slice none 0 0, .slice none 0 0, .slice none 0 0, .slice none 0 0, .slice none 0 0] 44) = w0 := ⟨_, rfl⟩
  have hb0 : Below w.heap.size w w0 := by rw [← hw0]; exact ((Below.refl _ w).alloc (Nat.le_refl _) _).alloc (by simp) _
  have hA : Blk w0 w.heap.size cs 44 := by rw [← hw0]; exact (Blk.new w _ _).alloc _
  have hO : Blk w0 (w.heap.size + 1) #[.slice none 0 0, .slice none 0 0, .slice none 0 0, .slice none 0 0, .slice none 0 0, .slice none 0 0, .slice none 0 0, .slice none 0 0, .slice none 0 0, .slice none 0 0, .slice none 0 0, .slice none 0 0, .slice none 0 0, .slice none 0 0, .slice none 0 0, .slice none 0 0, .slice none 0 0, .slice none 0 0, .slice none 0 0, .slice none 0 0, .slice none 0 0, .slice none 0 0, .slice none 0 0, .slice none 0 0, .slice none 0 0, .slice none 0 0, .slice none 0 0, .slice none 0 0, .slice none 0 0, .slice none 0 0, .slice none 0 0, .slice none 0 0] 44 := by rw [← hw0]; exact Blk.newAt _ _ _ (by simp)
  have hV0 := hV.below hb0 hB
  go_enter Try.func38, Try.ntmps38
  go_wp2_with fail
  refine (Thread_calls t _).mono ?_; rintro e _ ⟨rfl, rfl⟩
  by_cases h1 : badIn t 4 = true
  · have h0 : shErr t c = 2 := shErr_t h1
    rw [h1]
    go_wp2_with (first | refine wpList_load32 rfl _ rfl w.heap.size rfl hA hV.size ?_ | refine wpList_store32 rfl _ _ rfl (w.heap.size + 1) cs rfl rfl hO rfl hV.size hV.one ?_)
    refine ret_c3 rfl (w.heap.size + 1) rfl (hO.setRow cs) hV.size rfl ?_
    have hF : splAfter R t c = R := by unfold splAfter; rw [h0]; rfl
    have hE : splL R t c = [] := by unfold splL; rw [h0]; rfl
    exact ⟨cs, _, by rw [h0]; rfl, by rw [hF]; exact (hV0.below (bel_setRow (Below.refl w.heap.size _) (by omega) cs) hB).mono (by have := hb0.size; rw [setRow_size]; omega), by rw [hE]; exact RowAt.nil _ _, bel_setRow hb0 (by omega) cs⟩
  rw [Bool.not_eq_true] at h1
  rw [h1]
  go_wp2_with fail
  refine (Class_calls c _).mono ?_; rintro e _ ⟨rfl, rfl⟩
  by_cases h2 : badIn c 8 = true
  · have h0 : shErr t c = 2 := shErr_c h2
    rw [h2]
    go_wp2_with (first | refine wpList_load32 rfl _ rfl w.heap.size rfl hA hV.size ?_ | refine wpList_store32 rfl _ _ rfl (w.heap.size + 1) cs rfl rfl hO rfl hV.size hV.one ?_)
    refine ret_c3 rfl (w.heap.size + 1) rfl (hO.setRow cs) hV.size rfl ?_
    have hF : splAfter R t c = R := by unfold splAfter; rw [h0]; rfl
    have hE : splL R t c = [] := by unfold splL; rw [h0]; rfl
    exact ⟨cs, _, by rw [h0]; rfl, by rw [hF]; exact (hV0.below (bel_setRow (Below.refl w.heap.size _) (by omega) cs) hB).mono (by have := hb0.size; rw [setRow_size]; omega), by rw [hE]; exact RowAt.nil _ _, bel_setRow hb0 (by omega) cs⟩
  rw [Bool.not_eq_true] at h2
  rw [h2]
  obtain ⟨t0, t1⟩ := badIn_false h1
  obtain ⟨c0, c1⟩ := badIn_false h2
  have h0 := shErr_ok h1 h2
  obtain ⟨a, rfl⟩ : ∃ n : Nat, t = n := ⟨t.toNat, by omega⟩
  obtain ⟨b, rfl⟩ : ∃ n : Nat, c = n := ⟨c.toNat, by omega⟩
  clear hw0
  obtain ⟨la, lc, hg, hr, hpl⟩ := hV0.row (a * 8 + b) (by omega)
  have hlen := hR (a * 8 + b)
  have q := hA.cell (a * 8 + b) hg
  have hfz := hA.frozen (a * 8 + b)
  obtain ⟨l, hl⟩ : ∃ l, R (a * 8 + b) = l := ⟨_, rfl⟩
  rw [hl] at hr q hlen
  have HL := Lib.hid hl
  have H0 := Lib.hid h0
  have z0 := hb0.size
  have z2 : w.heap.size + 1 < w0.heap.size := hO.lt
  have hB0 : B ≤ w.heap.size := hB
  clear hg hl hV0
  cases la with
  | none =>
    obtain ⟨rfl, rfl⟩ := row_none hr
    have hu : RowAt B w0 (.slice none 0 0) 0 (intVals .i64 (([] : List Int).take 0)) := RowAt.nil _ _
    have hf : RowAt B w0 (.slice none 0 0) 0 (intVals .i64 (([] : List Int).drop 0)) := RowAt.nil _ _
    have hE9 : splL R a b = ([] : List Int).take 0 := by unfold splL; rw [if_pos h0, Int.toNat_natCast, Int.toNat_natCast, HL.out]; rfl
    have hF9 : splAfter R a b = upd R (a * 8 + b) (([] : List Int).drop 0) := by unfold splAfter; rw [if_pos h0, Int.toNat_natCast, Int.toNat_natCast, HL.out]; rfl
    have HL9 := Lib.hid hE9
    have HF := Lib.hid hF9
    clear hE9 hF9
    go_wp2_with fail
    have HU := Lib.hid hu
    have HD := Lib.hid hf
    have kY : Below w0.heap.size w0 w0.drew := (Below.refl _ w0).drew
    clear hu hf
    refine wp_region_held_drew (S := fun _ => True) (by kernel_rfl) trivial (fun hHeld => ?_)
    change wpAnyH _ _ _ _ _ _ _ _ w0.drew
    generalize w0.drew = Y at kY hHeld ⊢
    refine wpAnyH_take (i := 0) (v := ?_) rfl (by kernel_rfl) (by kernel_rfl) (by kernel_rfl) (fun _ _ _ h => h) (Or.inl ⟨by rfl, ?_⟩) (by assumption) ?_
    rotate_left
    · (intro Y hSw; (try dsimp only at hSw); obtain _ := hSw; go_simp; try with_reducible rfl)
    try simp only [Act.put, List.getElem_toArray, List.getElem_cons_zero, List.getElem_cons_succ, List.setIfInBounds_toArray, List.set_cons_zero, List.set_cons_succ]
    refine wpAnyH_take (i := 1) (v := ?_) rfl (by kernel_rfl) (by kernel_rfl) (by kernel_rfl) (fun _ _ _ h => h) (Or.inl ⟨by rfl, ?_⟩) (by assumption) ?_
    rotate_left
    · (intro Y hSw; (try dsimp only at hSw); obtain _ := hSw; go_simp; try with_reducible rfl)
    try simp only [Act.put, List.getElem_toArray, List.getElem_cons_zero, List.getElem_cons_succ, List.setIfInBounds_toArray, List.set_cons_zero, List.set_cons_succ]
    refine wpAnyH_take (i := 3) (v := ?_) rfl (by kernel_rfl) (by kernel_rfl) (by kernel_rfl) (fun _ _ _ h => h) (Or.inl ⟨by rfl, ?_⟩) (by assumption) ?_
    rotate_left
    · (intro Y hSw; (try dsimp only at hSw); obtain _ := hSw; go_simp; try with_reducible rfl)
    try simp only [Act.put, List.getElem_toArray, List.getElem_cons_zero, List.getElem_cons_succ, List.setIfInBounds_toArray, List.set_cons_zero, List.set_cons_succ]
    refine wpAnyH_take (i := 4) (v := ?_) rfl (by kernel_rfl) (by kernel_rfl) (by kernel_rfl) (fun _ _ _ h => h) (Or.inl ⟨by rfl, ?_⟩) (by assumption) ?_
    rotate_left
    · (intro Y hSw; (try dsimp only at hSw); obtain _ := hSw; go_simp; try with_reducible rfl)
    try simp only [Act.put, List.getElem_toArray, List.getElem_cons_zero, List.getElem_cons_succ, List.setIfInBounds_toArray, List.set_cons_zero, List.set_cons_succ]
    refine wpAnyH_take (i := 5) (v := ?_) rfl (by kernel_rfl) (by kernel_rfl) (by kernel_rfl) (fun _ _ _ h => h) (Or.inl ⟨by rfl, ?_⟩) (by assumption) ?_
    rotate_left
    · (intro Y hSw; (try dsimp only at hSw); obtain _ := hSw; go_simp; try with_reducible rfl)
    try simp only [Act.put, List.getElem_toArray, List.getElem_cons_zero, List.getElem_cons_succ, List.setIfInBounds_toArray, List.set_cons_zero, List.set_cons_succ]
    refine wpAnyH_take (i := 7) (v := ?_) rfl (by kernel_rfl) (by kernel_rfl) (by kernel_rfl) (fun _ _ _ h => h) (Or.inl ⟨by rfl, ?_⟩) (by assumption) ?_
    rotate_left
    · (intro Y hSw; (try dsimp only at hSw); obtain _ := hSw; go_simp; try with_reducible rfl)
    try simp only [Act.put, List.getElem_toArray, List.getElem_cons_zero, List.getElem_cons_succ, List.setIfInBounds_toArray, List.set_cons_zero, List.set_cons_succ]
    refine wpAnyH_ready (rs := [2]) (by kernel_rfl) (by simp) ?_
    refine AllReadyH.cons rfl (fun K hK => ?_) AllReadyH.nil
    go_simp
    obtain ⟨g, hg⟩ : ∃ g, Y.heap.size = g := ⟨_, rfl⟩
    obtain ⟨Z, hZ⟩ : ∃ Z, Y.alloc (.cells #[] 3) = Z := ⟨_, rfl⟩
    have jz : Below Y.heap.size Y Z := by rw [← hZ]; exact (Below.refl _ Y).alloc (Nat.le_refl _) _
    have ho : Z.ownsRow w0.heap.size 3 1 (.slice (some ⟨g, 0, none⟩) 0 0) 0 [] := by rw [← hZ, ← hg]; exact World.ownsRow_made Y #[] 0 kY.size (by decide) rfl
    rw [hZ, hg]
    replace kY := kY.trans (jz.mono kY.size)
    clear hZ
    refine hK.out _ _ (trivial) (fun hHeld => ?_)
    clear hK K
    try simp only [Act.put, List.getElem_toArray, List.getElem_cons_zero, List.getElem_cons_succ, List.setIfInBounds_toArray, List.set_cons_zero, List.set_cons_succ]
    obtain ⟨Y, rfl⟩ : ∃ Y : World, Y = Z := ⟨_, rfl⟩
    refine wpAnyH_ready (rs := [6]) (by kernel_rfl) (by simp) ?_
    refine AllReadyH.cons rfl (fun K hK => ?_) AllReadyH.nil
    rw [if_pos (by rfl)]
    refine wp_append_any _ _ 35 rfl w0.heap.size Try.underlying35 info64 0 [] rfl ho B 0 (intVals .i64 (([] : List Int).drop 0)) rfl (HD.out.below kY (by omega)) (by rw [intVals_len]; simp; try omega) (intVals_one _ _) (by unfold maxLen; omega) (by omega) kY.size ?_
    intro v3 Z ho3 hg2
    rw [Nat.zero_add, List.nil_append] at ho3
    replace kY := kY.appended ho hg2 (Nat.le_refl _) kY.size
    clear ho hg2
    obtain ⟨a2, c2, rfl, _⟩ := (RowAt.of_owns ho3 (Nat.le_refl _)).len
    refine hK.out _ _ (trivial) (fun hHeld => ?_)
    clear hK K
    try simp only [Act.put, List.getElem_toArray, List.getElem_cons_zero, List.getElem_cons_succ, List.setIfInBounds_toArray, List.set_cons_zero, List.set_cons_succ]
    obtain ⟨Y, rfl⟩ : ∃ Y : World, Y = Z := ⟨_, rfl⟩
    refine wpAnyH_take (i := 8) (v := ?_) rfl (by kernel_rfl) (by kernel_rfl) (by kernel_rfl) (fun _ _ _ h => h) (Or.inl ⟨by rfl, ?_⟩) (by assumption) ?_
    rotate_left
    · (intro Y hSw; (try dsimp only at hSw); obtain _ := hSw; go_simp; try with_reducible rfl)
    try simp only [Act.put, List.getElem_toArray, List.getElem_cons_zero, List.getElem_cons_succ, List.setIfInBounds_toArray, List.set_cons_zero, List.set_cons_succ]
    refine wpAnyH_ready (rs := [9]) (by kernel_rfl) (by simp) ?_
    refine AllReadyH.cons rfl (fun K hK => ?_) AllReadyH.nil
    go_simp
    have hcw : Y.cell? ⟨w.heap.size, a * 8 + b, none⟩ = some (.slice none 0 0) := (kY.cell (p := ⟨w.heap.size, a * 8 + b, none⟩) hA.lt).trans q
    have hfw : Y.frozen? ⟨w.heap.size, a * 8 + b, none⟩ = false := (hA.below kY hA.lt).frozen _
    go_simp
    refine hK.out _ _ (trivial) (fun hHeld => ?_)
    clear hK K
    try simp only [Act.put, List.getElem_toArray, List.getElem_cons_zero, List.getElem_cons_succ, List.setIfInBounds_toArray, List.set_cons_zero, List.set_cons_succ]
    refine wpAnyH_done (by kernel_rfl) ?_ _
    obtain ⟨W3, hW3⟩ : ∃ W3, Y.setCell ⟨w.heap.size, a * 8 + b, none⟩ (.slice a2 0 c2) = W3 := ⟨_, rfl⟩
    obtain ⟨cs3, hcs3⟩ : ∃ cs3, cs.setIfInBounds (a * 8 + b) (.slice a2 0 c2) = cs3 := ⟨_, rfl⟩
    have hA3 : Blk W3 w.heap.size cs3 44 := by rw [← hW3, ← hcs3]; exact (hA.below kY hA.lt).set _ _
    have hO3 : Blk W3 (w.heap.size + 1) #[.slice none 0 0, .slice none 0 0, .slice none 0 0, .slice none 0 0, .slice none 0 0, .slice none 0 0, .slice none 0 0, .slice none 0 0, .slice none 0 0, .slice none 0 0, .slice none 0 0, .slice none 0 0, .slice none 0 0, .slice none 0 0, .slice none 0 0, .slice none 0 0, .slice none 0 0, .slice none 0 0, .slice none 0 0, .slice none 0 0, .slice none 0 0, .slice none 0 0, .slice none 0 0, .slice none 0 0, .slice none 0 0, .slice none 0 0, .slice none 0 0, .slice none 0 0, .slice none 0 0, .slice none 0 0, .slice none 0 0, .slice none 0 0] 44 := by rw [← hW3]; exact (hO.below kY hO.lt).setOther _ _ (by show w.heap.size + 1 ≠ w.heap.size; omega)
    have k3 : Below w.heap.size w W3 := by rw [← hW3]; exact (hb0.trans (kY.mono (by omega))).setCell (p := ⟨w.heap.size, a * 8 + b, none⟩) (Nat.le_refl _) _
    have k03 : Below w.heap.size w0 W3 := by rw [← hW3]; exact (kY.mono (by omega)).setCell (p := ⟨w.heap.size, a * 8 + b, none⟩) (Nat.le_refl _) _
    replace ho3 : W3.ownsRow w0.heap.size 3 1 (.slice a2 0 c2) 0 (intVals .i64 (([] : List Int).drop 0)) := by rw [← hW3]; exact ((Chg.refl w.heap.size Y).setc ⟨w.heap.size, a * 8 + b, none⟩ _ rfl).owns ho3 (by omega)
    have hV3 : RefV W3.heap.size W3 cs3 (upd R (a * 8 + b) (([] : List Int).drop 0)) := by rw [← hcs3]; exact ((hV.below k3 hB).mono (by have := k3.size; omega)).set (a * 8 + b) (by omega) _ (by simp; try omega) (RowAt.of_owns ho3 (Nat.le_refl _)) (owns_plain ho3)
    have HCS := Lib.hid hcs3
    have z3 : w0.heap.size ≤ W3.heap.size := by rw [← hW3]; simpa using kY.size
    rw [hW3]
    clear hcw hfw hW3 kY hHeld hcs3 hA hO q hfz
    have kY : Below W3.heap.size W3 W3.drew := (Below.refl _ W3).drew
    clear HD
    try generalize (if 0 = 0 then (some ⟨bb, off, none⟩ : Option Addr) else some ⟨bb, off + 0, none⟩) = aa
    go_wp2_with fail
    refine wp_region_held_drew (S := fun _ => True) (by kernel_rfl) trivial (fun hHeld => ?_)
    change wpAnyH _ _ _ _ _ _ _ _ W3.drew
    generalize W3.drew = Y at kY hHeld ⊢
    refine wpAnyH_take (i := 2) (v := ?_) rfl (by kernel_rfl) (by kernel_rfl) (by kernel_rfl) (fun _ _ _ h => h) (Or.inl ⟨by rfl, ?_⟩) (by assumption) ?_
    rotate_left
    · (intro Y hSw; (try dsimp only at hSw); obtain _ := hSw; go_simp; try with_reducible rfl)
    try simp only [Act.put, List.getElem_toArray, List.getElem_cons_zero, List.getElem_cons_succ, List.setIfInBounds_toArray, List.set_cons_zero, List.set_cons_succ]
    refine wpAnyH_take (i := 3) (v := ?_) rfl (by kernel_rfl) (by kernel_rfl) (by kernel_rfl) (fun _ _ _ h => h) (Or.inl ⟨by rfl, ?_⟩) (by assumption) ?_
    rotate_left
    · (intro Y hSw; (try dsimp only at hSw); obtain _ := hSw; go_simp; try with_reducible rfl)
    try simp only [Act.put, List.getElem_toArray, List.getElem_cons_zero, List.getElem_cons_succ, List.setIfInBounds_toArray, List.set_cons_zero, List.set_cons_succ]
    refine wpAnyH_take (i := 4) (v := ?_) rfl (by kernel_rfl) (by kernel_rfl) (by kernel_rfl) (fun _ _ _ h => h) (Or.inl ⟨by rfl, ?_⟩) (by assumption) ?_
    rotate_left
    · (intro Y hSw; (try dsimp only at hSw); obtain _ := hSw; go_simp; try with_reducible rfl)
    try simp only [Act.put, List.getElem_toArray, List.getElem_cons_zero, List.getElem_cons_succ, List.setIfInBounds_toArray, List.set_cons_zero, List.set_cons_succ]
    refine wpAnyH_ready (rs := [0, 1]) (by kernel_rfl) (by simp) ?_
    refine AllReadyH.cons rfl (fun K hK => ?_) (AllReadyH.cons rfl (fun K hK => ?_) AllReadyH.nil)
    · rw [if_pos (by rfl)]
      refine wp_load32 _ rfl w.heap.size rfl (hA3.below kY hA3.lt) hV3.size ?_
      refine hK.out _ _ (trivial) (fun hHeld => ?_)
      clear hK K
      try simp only [Act.put, List.getElem_toArray, List.getElem_cons_zero, List.getElem_cons_succ, List.setIfInBounds_toArray, List.set_cons_zero, List.set_cons_succ]
      refine wpAnyH_ready (rs := [1]) (by kernel_rfl) (by simp) ?_
      refine AllReadyH.cons rfl (fun K hK => ?_) AllReadyH.nil
      go_simp
      obtain ⟨g, hg⟩ : ∃ g, Y.heap.size = g := ⟨_, rfl⟩
      obtain ⟨Z, hZ⟩ : ∃ Z, Y.alloc (.cells #[] 3) = Z := ⟨_, rfl⟩
      have jz : Below Y.heap.size Y Z := by rw [← hZ]; exact (Below.refl _ Y).alloc (Nat.le_refl _) _
      have ho : Z.ownsRow W3.heap.size 3 1 (.slice (some ⟨g, 0, none⟩) 0 0) 0 [] := by rw [← hZ, ← hg]; exact World.ownsRow_made Y #[] 0 kY.size (by decide) rfl
      rw [hZ, hg]
      replace kY := kY.trans (jz.mono kY.size)
      clear hZ
      refine hK.out _ _ (trivial) (fun hHeld => ?_)
      clear hK K
      try simp only [Act.put, List.getElem_toArray, List.getElem_cons_zero, List.getElem_cons_succ, List.setIfInBounds_toArray, List.set_cons_zero, List.set_cons_succ]
      obtain ⟨Y, rfl⟩ : ∃ Y : World, Y = Z := ⟨_, rfl⟩
      refine wpAnyH_ready (rs := [5]) (by kernel_rfl) (by simp) ?_
      refine AllReadyH.cons rfl (fun K hK => ?_) AllReadyH.nil
      rw [if_pos (by rfl)]
      refine wp_append_any _ _ 35 rfl W3.heap.size Try.underlying35 info64 0 [] rfl ho B 0 (intVals .i64 (([] : List Int).take 0)) rfl ((HU.out.below k03 hB0).below kY (by omega)) (by rw [intVals_len]; simp; try omega) (intVals_one _ _) (by unfold maxLen; omega) (by omega) kY.size ?_
      intro v5 Z ho5 hg2
      rw [Nat.zero_add, List.nil_append] at ho5
      replace kY := kY.appended ho hg2 (Nat.le_refl _) kY.size
      clear ho hg2
      refine hK.out _ _ (trivial) (fun hHeld => ?_)
      clear hK K
      try simp only [Act.put, List.getElem_toArray, List.getElem_cons_zero, List.getElem_cons_succ, List.setIfInBounds_toArray, List.set_cons_zero, List.set_cons_succ]
      obtain ⟨Y, rfl⟩ : ∃ Y : World, Y = Z := ⟨_, rfl⟩
      refine wpAnyH_ready (rs := [6]) (by kernel_rfl) (by simp) ?_
      refine AllReadyH.cons rfl (fun K hK => ?_) AllReadyH.nil
      rw [if_pos (by rfl)]
      refine wp_store32 _ _ rfl (w.heap.size + 1) cs3 rfl rfl (hO3.below kY hO3.lt) rfl hV3.size hV3.one ?_
      refine hK.out _ _ (trivial) (fun hHeld => ?_)
      clear hK K
      try simp only [Act.put, List.getElem_toArray, List.getElem_cons_zero, List.getElem_cons_succ, List.setIfInBounds_toArray, List.set_cons_zero, List.set_cons_succ]
      refine wpAnyH_take (i := 7) (v := ?_) rfl (by kernel_rfl) (by kernel_rfl) (by kernel_rfl) (fun _ _ _ h => h) (Or.inl ⟨by rfl, ?_⟩) (by assumption) ?_
      rotate_left
      · (intro Y hSw; (try dsimp only at hSw); obtain _ := hSw; go_simp; try with_reducible rfl)
      try simp only [Act.put, List.getElem_toArray, List.getElem_cons_zero, List.getElem_cons_succ, List.setIfInBounds_toArray, List.set_cons_zero, List.set_cons_succ]
      refine wpAnyH_take (i := 8) (v := ?_) rfl (by kernel_rfl) (by kernel_rfl) (by kernel_rfl) (fun _ _ _ h => h) (Or.inl ⟨by rfl, ?_⟩) (by assumption) ?_
      rotate_left
      · (intro Y hSw; (try dsimp only at hSw); obtain _ := hSw; go_simp; try with_reducible rfl)
      try simp only [Act.put, List.getElem_toArray, List.getElem_cons_zero, List.getElem_cons_succ, List.setIfInBounds_toArray, List.set_cons_zero, List.set_cons_succ]
      refine wpAnyH_done (by kernel_rfl) ?_ _
      go_wp2_with fail
      refine ret_c3 rfl (w.heap.size + 1) rfl ((hO3.below kY hO3.lt).setRow cs3) hV3.size rfl ?_
      have k4 := bel_setRow (g := w.heap.size + 1) (k3.trans (kY.mono (by omega))) (by omega) cs3
      have ho6 := ((Chg.refl (w.heap.size + 1) Y).setRow cs3).owns ho5 (by omega)
      have ho7 := ((Chg.refl (w.heap.size + 1) Y).setRow cs3).owns (owns_below ho3 kY (Nat.le_refl _)) (by omega)
      refine ⟨cs3, _, by rw [H0.out]; rfl, ?_, ?_, k4⟩
      · rw [HF.out]
        have hfin := ((hV.below k4 hB).mono (by have := k4.size; omega)).set (a * 8 + b) (by omega) (([] : List Int).drop 0) (by simp; try omega) (RowAt.of_owns ho7 (Nat.le_refl _)) (owns_plain ho7)
        rw [HCS.out] at hfin
        exact hfin
      · rw [HL9.out]
        have := RowAt.of_owns (B := (Y.setRow (w.heap.size + 1) cs3).heap.size) ho6 (Nat.le_refl _)
        rw [show (([] : List Int).take 0).length = 0 by simp; try omega]
        exact this
    · go_simp
      obtain ⟨g, hg⟩ : ∃ g, Y.heap.size = g := ⟨_, rfl⟩
      obtain ⟨Z, hZ⟩ : ∃ Z, Y.alloc (.cells #[] 3) = Z := ⟨_, rfl⟩
      have jz : Below Y.heap.size Y Z := by rw [← hZ]; exact (Below.refl _ Y).alloc (Nat.le_refl _) _
      have ho : Z.ownsRow W3.heap.size 3 1 (.slice (some ⟨g, 0, none⟩) 0 0) 0 [] := by rw [← hZ, ← hg]; exact World.ownsRow_made Y #[] 0 kY.size (by decide) rfl
      rw [hZ, hg]
      replace kY := kY.trans (jz.mono kY.size)
      clear hZ
      refine hK.out _ _ (trivial) (fun hHeld => ?_)
      clear hK K
      try simp only [Act.put, List.getElem_toArray, List.getElem_cons_zero, List.getElem_cons_succ, List.setIfInBounds_toArray, List.set_cons_zero, List.set_cons_succ]
      obtain ⟨Y, rfl⟩ : ∃ Y : World, Y = Z := ⟨_, rfl⟩
      refine wpAnyH_ready (rs := [0, 5]) (by kernel_rfl) (by simp) ?_
      refine AllReadyH.cons rfl (fun K hK => ?_) (AllReadyH.cons rfl (fun K hK => ?_) AllReadyH.nil)
      · rw [if_pos (by rfl)]
        refine wp_load32 _ rfl w.heap.size rfl (hA3.below kY hA3.lt) hV3.size ?_
        refine hK.out _ _ (trivial) (fun hHeld => ?_)
        clear hK K
        try simp only [Act.put, List.getElem_toArray, List.getElem_cons_zero, List.getElem_cons_succ, List.setIfInBounds_toArray, List.set_cons_zero, List.set_cons_succ]
        refine wpAnyH_ready (rs := [5]) (by kernel_rfl) (by simp) ?_
        refine AllReadyH.cons rfl (fun K hK => ?_) AllReadyH.nil
        rw [if_pos (by rfl)]
        refine wp_append_any _ _ 35 rfl W3.heap.size Try.underlying35 info64 0 [] rfl ho B 0 (intVals .i64 (([] : List Int).take 0)) rfl ((HU.out.below k03 hB0).below kY (by omega)) (by rw [intVals_len]; simp; try omega) (intVals_one _ _) (by unfold maxLen; omega) (by omega) kY.size ?_
        intro v5 Z ho5 hg2
        rw [Nat.zero_add, List.nil_append] at ho5
        replace kY := kY.appended ho hg2 (Nat.le_refl _) kY.size
        clear ho hg2
        refine hK.out _ _ (trivial) (fun hHeld => ?_)
        clear hK K
        try simp only [Act.put, List.getElem_toArray, List.getElem_cons_zero, List.getElem_cons_succ, List.setIfInBounds_toArray, List.set_cons_zero, List.set_cons_succ]
        obtain ⟨Y, rfl⟩ : ∃ Y : World, Y = Z := ⟨_, rfl⟩
        refine wpAnyH_ready (rs := [6]) (by kernel_rfl) (by simp) ?_
        refine AllReadyH.cons rfl (fun K hK => ?_) AllReadyH.nil
        rw [if_pos (by rfl)]
        refine wp_store32 _ _ rfl (w.heap.size + 1) cs3 rfl rfl (hO3.below kY hO3.lt) rfl hV3.size hV3.one ?_
        refine hK.out _ _ (trivial) (fun hHeld => ?_)
        clear hK K
        try simp only [Act.put, List.getElem_toArray, List.getElem_cons_zero, List.getElem_cons_succ, List.setIfInBounds_toArray, List.set_cons_zero, List.set_cons_succ]
        refine wpAnyH_take (i := 7) (v := ?_) rfl (by kernel_rfl) (by kernel_rfl) (by kernel_rfl) (fun _ _ _ h => h) (Or.inl ⟨by rfl, ?_⟩) (by assumption) ?_
        rotate_left
        · (intro Y hSw; (try dsimp only at hSw); obtain _ := hSw; go_simp; try with_reducible rfl)
        try simp only [Act.put, List.getElem_toArray, List.getElem_cons_zero, List.getElem_cons_succ, List.setIfInBounds_toArray, List.set_cons_zero, List.set_cons_succ]
        refine wpAnyH_take (i := 8) (v := ?_) rfl (by kernel_rfl) (by kernel_rfl) (by kernel_rfl) (fun _ _ _ h => h) (Or.inl ⟨by rfl, ?_⟩) (by assumption) ?_
        rotate_left
        · (intro Y hSw; (try dsimp only at hSw); obtain _ := hSw; go_simp; try with_reducible rfl)
        try simp only [Act.put, List.getElem_toArray, List.getElem_cons_zero, List.getElem_cons_succ, List.setIfInBounds_toArray, List.set_cons_zero, List.set_cons_succ]
        refine wpAnyH_done (by kernel_rfl) ?_ _
        go_wp2_with fail
        refine ret_c3 rfl (w.heap.size + 1) rfl ((hO3.below kY hO3.lt).setRow cs3) hV3.size rfl ?_
        have k4 := bel_setRow (g := w.heap.size + 1) (k3.trans (kY.mono (by omega))) (by omega) cs3
        have ho6 := ((Chg.refl (w.heap.size + 1) Y).setRow cs3).owns ho5 (by omega)
        have ho7 := ((Chg.refl (w.heap.size + 1) Y).setRow cs3).owns (owns_below ho3 kY (Nat.le_refl _)) (by omega)
        refine ⟨cs3, _, by rw [H0.out]; rfl, ?_, ?_, k4⟩
        · rw [HF.out]
          have hfin := ((hV.below k4 hB).mono (by have := k4.size; omega)).set (a * 8 + b) (by omega) (([] : List Int).drop 0) (by simp; try omega) (RowAt.of_owns ho7 (Nat.le_refl _)) (owns_plain ho7)
          rw [HCS.out] at hfin
          exact hfin
        · rw [HL9.out]
          have := RowAt.of_owns (B := (Y.setRow (w.heap.size + 1) cs3).heap.size) ho6 (Nat.le_refl _)
          rw [show (([] : List Int).take 0).length = 0 by simp; try omega]
          exact this
      · rw [if_pos (by rfl)]
        refine wp_append_any _ _ 35 rfl W3.heap.size Try.underlying35 info64 0 [] rfl ho B 0 (intVals .i64 (([] : List Int).take 0)) rfl ((HU.out.below k03 hB0).below kY (by omega)) (by rw [intVals_len]; simp; try omega) (intVals_one _ _) (by unfold maxLen; omega) (by omega) kY.size ?_
        intro v5 Z ho5 hg2
        rw [Nat.zero_add, List.nil_append] at ho5
        replace kY := kY.appended ho hg2 (Nat.le_refl _) kY.size
        clear ho hg2
        refine hK.out _ _ (trivial) (fun hHeld => ?_)
        clear hK K
        try simp only [Act.put, List.getElem_toArray, List.getElem_cons_zero, List.getElem_cons_succ, List.setIfInBounds_toArray, List.set_cons_zero, List.set_cons_succ]
        obtain ⟨Y, rfl⟩ : ∃ Y : World, Y = Z := ⟨_, rfl⟩
        refine wpAnyH_ready (rs := [0]) (by kernel_rfl) (by simp) ?_
        refine AllReadyH.cons rfl (fun K hK => ?_) AllReadyH.nil
        rw [if_pos (by rfl)]
        refine wp_load32 _ rfl w.heap.size rfl (hA3.below kY hA3.lt) hV3.size ?_
        refine hK.out _ _ (trivial) (fun hHeld => ?_)
        clear hK K
        try simp only [Act.put, List.getElem_toArray, List.getElem_cons_zero, List.getElem_cons_succ, List.setIfInBounds_toArray, List.set_cons_zero, List.set_cons_succ]
        refine wpAnyH_ready (rs := [6]) (by kernel_rfl) (by simp) ?_
        refine AllReadyH.cons rfl (fun K hK => ?_) AllReadyH.nil
        rw [if_pos (by rfl)]
        refine wp_store32 _ _ rfl (w.heap.size + 1) cs3 rfl rfl (hO3.below kY hO3.lt) rfl hV3.size hV3.one ?_
        refine hK.out _ _ (trivial) (fun hHeld => ?_)
        clear hK K
        try simp only [Act.put, List.getElem_toArray, List.getElem_cons_zero, List.getElem_cons_succ, List.setIfInBounds_toArray, List.set_cons_zero, List.set_cons_succ]
        refine wpAnyH_take (i := 7) (v := ?_) rfl (by kernel_rfl) (by kernel_rfl) (by kernel_rfl) (fun _ _ _ h => h) (Or.inl ⟨by rfl, ?_⟩) (by assumption) ?_
        rotate_left
        · (intro Y hSw; (try dsimp only at hSw); obtain _ := hSw; go_simp; try with_reducible rfl)
        try simp only [Act.put, List.getElem_toArray, List.getElem_cons_zero, List.getElem_cons_succ, List.setIfInBounds_toArray, List.set_cons_zero, List.set_cons_succ]
        refine wpAnyH_take (i := 8) (v := ?_) rfl (by kernel_rfl) (by kernel_rfl) (by kernel_rfl) (fun _ _ _ h => h) (Or.inl ⟨by rfl, ?_⟩) (by assumption) ?_
        rotate_left
        · (intro Y hSw; (try dsimp only at hSw); obtain _ := hSw; go_simp; try with_reducible rfl)
        try simp only [Act.put, List.getElem_toArray, List.getElem_cons_zero, List.getElem_cons_succ, List.setIfInBounds_toArray, List.set_cons_zero, List.set_cons_succ]
        refine wpAnyH_done (by kernel_rfl) ?_ _
        go_wp2_with fail
        refine ret_c3 rfl (w.heap.size + 1) rfl ((hO3.below kY hO3.lt).setRow cs3) hV3.size rfl ?_
        have k4 := bel_setRow (g := w.heap.size + 1) (k3.trans (kY.mono (by omega))) (by omega) cs3
        have ho6 := ((Chg.refl (w.heap.size + 1) Y).setRow cs3).owns ho5 (by omega)
        have ho7 := ((Chg.refl (w.heap.size + 1) Y).setRow cs3).owns (owns_below ho3 kY (Nat.le_refl _)) (by omega)
        refine ⟨cs3, _, by rw [H0.out]; rfl, ?_, ?_, k4⟩
        · rw [HF.out]
          have hfin := ((hV.below k4 hB).mono (by have := k4.size; omega)).set (a * 8 + b) (by omega) (([] : List Int).drop 0) (by simp; try omega) (RowAt.of_owns ho7 (Nat.le_refl _)) (owns_plain ho7)
          rw [HCS.out] at hfin
          exact hfin
        · rw [HL9.out]
          have := RowAt.of_owns (B := (Y.setRow (w.heap.size + 1) cs3).heap.size) ho6 (Nat.le_refl _)
          rw [show (([] : List Int).take 0).length = 0 by simp; try omega]
          exact this
  | some ad =>
  obtain ⟨bb, off, sp⟩ := ad
  obtain rfl : sp = none := hpl _ rfl
  have h9 := hr.le
  by_cases h4 : l.length < 4
  · have i0 : (l.length : Int) < 4 := by omega
    have i1 : (0 : Int) ≤ l.length := by omega
    have i2 : (l.length : Int) ≤ lc := by omega
    have hu := hr.upTo l.length (Nat.le_refl _)
    have hf := hr.onFrom l.length (Nat.le_refl _)
    rw [Nat.sub_self] at hf
    have hE9 : splL R a b = l.take l.length := by unfold splL; rw [if_pos h0, Int.toNat_natCast, Int.toNat_natCast, HL.out, List.take_length, List.take_of_length_le (by omega)]
    have hF9 : splAfter R a b = upd R (a * 8 + b) (l.drop l.length) := by unfold splAfter; rw [if_pos h0, Int.toNat_natCast, Int.toNat_natCast, HL.out, List.drop_length, List.drop_of_length_le (by omega)]
    have HL9 := Lib.hid hE9
    have HF := Lib.hid hF9
    clear hE9 hF9 hr
    go_wp2_with fail
    have HU := Lib.hid hu
    have HD := Lib.hid hf
    have kY : Below w0.heap.size w0 w0.drew := (Below.refl _ w0).drew
    clear hu hf
    refine wp_region_held_drew (S := fun _ => True) (by kernel_rfl) trivial (fun hHeld => ?_)
    change wpAnyH _ _ _ _ _ _ _ _ w0.drew
    generalize w0.drew = Y at kY hHeld ⊢
    refine wpAnyH_take (i := 0) (v := ?_) rfl (by kernel_rfl) (by kernel_rfl) (by kernel_rfl) (fun _ _ _ h => h) (Or.inl ⟨by rfl, ?_⟩) (by assumption) ?_
    rotate_left
    · (intro Y hSw; (try dsimp only at hSw); obtain _ := hSw; go_simp; try with_reducible rfl)
    try simp only [Act.put, List.getElem_toArray, List.getElem_cons_zero, List.getElem_cons_succ, List.setIfInBounds_toArray, List.set_cons_zero, List.set_cons_succ]
    refine wpAnyH_take (i := 1) (v := ?_) rfl (by kernel_rfl) (by kernel_rfl) (by kernel_rfl) (fun _ _ _ h => h) (Or.inl ⟨by rfl, ?_⟩) (by assumption) ?_
    rotate_left
    · (intro Y hSw; (try dsimp only at hSw); obtain _ := hSw; go_simp; try with_reducible rfl)
    try simp only [Act.put, List.getElem_toArray, List.getElem_cons_zero, List.getElem_cons_succ, List.setIfInBounds_toArray, List.set_cons_zero, List.set_cons_succ]
    refine wpAnyH_take (i := 3) (v := ?_) rfl (by kernel_rfl) (by kernel_rfl) (by kernel_rfl) (fun _ _ _ h => h) (Or.inl ⟨by rfl, ?_⟩) (by assumption) ?_
    rotate_left
    · (intro Y hSw; (try dsimp only at hSw); obtain _ := hSw; go_simp; try with_reducible rfl)
    try simp only [Act.put, List.getElem_toArray, List.getElem_cons_zero, List.getElem_cons_succ, List.setIfInBounds_toArray, List.set_cons_zero, List.set_cons_succ]
    refine wpAnyH_take (i := 4) (v := ?_) rfl (by kernel_rfl) (by kernel_rfl) (by kernel_rfl) (fun _ _ _ h => h) (Or.inl ⟨by rfl, ?_⟩) (by assumption) ?_
    rotate_left
    · (intro Y hSw; (try dsimp only at hSw); obtain _ := hSw; go_simp; try with_reducible rfl)
    try simp only [Act.put, List.getElem_toArray, List.getElem_cons_zero, List.getElem_cons_succ, List.setIfInBounds_toArray, List.set_cons_zero, List.set_cons_succ]
    refine wpAnyH_take (i := 5) (v := ?_) rfl (by kernel_rfl) (by kernel_rfl) (by kernel_rfl) (fun _ _ _ h => h) (Or.inl ⟨by rfl, ?_⟩) (by assumption) ?_
    rotate_left
    · (intro Y hSw; (try dsimp only at hSw); obtain _ := hSw; go_simp; try with_reducible rfl)
    try simp only [Act.put, List.getElem_toArray, List.getElem_cons_zero, List.getElem_cons_succ, List.setIfInBounds_toArray, List.set_cons_zero, List.set_cons_succ]
    refine wpAnyH_take (i := 7) (v := ?_) rfl (by kernel_rfl) (by kernel_rfl) (by kernel_rfl) (fun _ _ _ h => h) (Or.inl ⟨by rfl, ?_⟩) (by assumption) ?_
    rotate_left
    · (intro Y hSw; (try dsimp only at hSw); obtain _ := hSw; go_simp; try with_reducible rfl)
    try simp only [Act.put, List.getElem_toArray, List.getElem_cons_zero, List.getElem_cons_succ, List.setIfInBounds_toArray, List.set_cons_zero, List.set_cons_succ]
    refine wpAnyH_ready (rs := [2]) (by kernel_rfl) (by simp) ?_
    refine AllReadyH.cons rfl (fun K hK => ?_) AllReadyH.nil
    go_simp
    obtain ⟨g, hg⟩ : ∃ g, Y.heap.size = g := ⟨_, rfl⟩
    obtain ⟨Z, hZ⟩ : ∃ Z, Y.alloc (.cells #[] 3) = Z := ⟨_, rfl⟩
    have jz : Below Y.heap.size Y Z := by rw [← hZ]; exact (Below.refl _ Y).alloc (Nat.le_refl _) _
    have ho : Z.ownsRow w0.heap.size 3 1 (.slice (some ⟨g, 0, none⟩) 0 0) 0 [] := by rw [← hZ, ← hg]; exact World.ownsRow_made Y #[] 0 kY.size (by decide) rfl
    rw [hZ, hg]
    replace kY := kY.trans (jz.mono kY.size)
    clear hZ
    refine hK.out _ _ (trivial) (fun hHeld => ?_)
    clear hK K
    try simp only [Act.put, List.getElem_toArray, List.getElem_cons_zero, List.getElem_cons_succ, List.setIfInBounds_toArray, List.set_cons_zero, List.set_cons_succ]
    obtain ⟨Y, rfl⟩ : ∃ Y : World, Y = Z := ⟨_, rfl⟩
    refine wpAnyH_ready (rs := [6]) (by kernel_rfl) (by simp) ?_
    refine AllReadyH.cons rfl (fun K hK => ?_) AllReadyH.nil
    rw [if_pos (by rfl)]
    refine wp_append_any _ _ 35 rfl w0.heap.size Try.underlying35 info64 0 [] rfl ho B 0 (intVals .i64 (l.drop l.length)) rfl (HD.out.below kY (by omega)) (by rw [intVals_len]; simp; try omega) (intVals_one _ _) (by unfold maxLen; omega) (by omega) kY.size ?_
    intro v3 Z ho3 hg2
    rw [Nat.zero_add, List.nil_append] at ho3
    replace kY := kY.appended ho hg2 (Nat.le_refl _) kY.size
    clear ho hg2
    obtain ⟨a2, c2, rfl, _⟩ := (RowAt.of_owns ho3 (Nat.le_refl _)).len
    refine hK.out _ _ (trivial) (fun hHeld => ?_)
    clear hK K
    try simp only [Act.put, List.getElem_toArray, List.getElem_cons_zero, List.getElem_cons_succ, List.setIfInBounds_toArray, List.set_cons_zero, List.set_cons_succ]
    obtain ⟨Y, rfl⟩ : ∃ Y : World, Y = Z := ⟨_, rfl⟩
    refine wpAnyH_take (i := 8) (v := ?_) rfl (by kernel_rfl) (by kernel_rfl) (by kernel_rfl) (fun _ _ _ h => h) (Or.inl ⟨by rfl, ?_⟩) (by assumption) ?_
    rotate_left
    · (intro Y hSw; (try dsimp only at hSw); obtain _ := hSw; go_simp; try with_reducible rfl)
    try simp only [Act.put, List.getElem_toArray, List.getElem_cons_zero, List.getElem_cons_succ, List.setIfInBounds_toArray, List.set_cons_zero, List.set_cons_succ]
    refine wpAnyH_ready (rs := [9]) (by kernel_rfl) (by simp) ?_
    refine AllReadyH.cons rfl (fun K hK => ?_) AllReadyH.nil
    go_simp
    have hcw : Y.cell? ⟨w.heap.size, a * 8 + b, none⟩ = some (.slice (some ⟨bb, off, none⟩) l.length lc) := (kY.cell (p := ⟨w.heap.size, a * 8 + b, none⟩) hA.lt).trans q
    have hfw : Y.frozen? ⟨w.heap.size, a * 8 + b, none⟩ = false := (hA.below kY hA.lt).frozen _
    go_simp
    refine hK.out _ _ (trivial) (fun hHeld => ?_)
    clear hK K
    try simp only [Act.put, List.getElem_toArray, List.getElem_cons_zero, List.getElem_cons_succ, List.setIfInBounds_toArray, List.set_cons_zero, List.set_cons_succ]
    refine wpAnyH_done (by kernel_rfl) ?_ _
    obtain ⟨W3, hW3⟩ : ∃ W3, Y.setCell ⟨w.heap.size, a * 8 + b, none⟩ (.slice a2 0 c2) = W3 := ⟨_, rfl⟩
    obtain ⟨cs3, hcs3⟩ : ∃ cs3, cs.setIfInBounds (a * 8 + b) (.slice a2 0 c2) = cs3 := ⟨_, rfl⟩
    have hA3 : Blk W3 w.heap.size cs3 44 := by rw [← hW3, ← hcs3]; exact (hA.below kY hA.lt).set _ _
    have hO3 : Blk W3 (w.heap.size + 1) #[.slice none 0 0, .slice none 0 0, .slice none 0 0, .slice none 0 0, .slice none 0 0, .slice none 0 0, .slice none 0 0, .slice none 0 0, .slice none 0 0, .slice none 0 0, .slice none 0 0, .slice none 0 0, .slice none 0 0, .slice none 0 0, .slice none 0 0, .slice none 0 0, .slice none 0 0, .slice none 0 0, .slice none 0 0, .slice none 0 0, .slice none 0 0, .slice none 0 0, .slice none 0 0, .slice none 0 0, .slice none 0 0, .slice none 0 0, .slice none 0 0, .slice none 0 0, .slice none 0 0, .slice none 0 0, .slice none 0 0, .slice none 0 0] 44 := by rw [← hW3]; exact (hO.below kY hO.lt).setOther _ _ (by show w.heap.size + 1 ≠ w.heap.size; omega)
    have k3 : Below w.heap.size w W3 := by rw [← hW3]; exact (hb0.trans (kY.mono (by omega))).setCell (p := ⟨w.heap.size, a * 8 + b, none⟩) (Nat.le_refl _) _
    have k03 : Below w.heap.size w0 W3 := by rw [← hW3]; exact (kY.mono (by omega)).setCell (p := ⟨w.heap.size, a * 8 + b, none⟩) (Nat.le_refl _) _
    replace ho3 : W3.ownsRow w0.heap.size 3 1 (.slice a2 0 c2) 0 (intVals .i64 (l.drop l.length)) := by rw [← hW3]; exact ((Chg.refl w.heap.size Y).setc ⟨w.heap.size, a * 8 + b, none⟩ _ rfl).owns ho3 (by omega)
    have hV3 : RefV W3.heap.size W3 cs3 (upd R (a * 8 + b) (l.drop l.length)) := by rw [← hcs3]; exact ((hV.below k3 hB).mono (by have := k3.size; omega)).set (a * 8 + b) (by omega) _ (by simp; try omega) (RowAt.of_owns ho3 (Nat.le_refl _)) (owns_plain ho3)
    have HCS := Lib.hid hcs3
    have z3 : w0.heap.size ≤ W3.heap.size := by rw [← hW3]; simpa using kY.size
    rw [hW3]
    clear hcw hfw hW3 kY hHeld hcs3 hA hO q hfz
    have kY : Below W3.heap.size W3 W3.drew := (Below.refl _ W3).drew
    clear HD
    try generalize (if lc = l.length then (some ⟨bb, off, none⟩ : Option Addr) else some ⟨bb, off + l.length, none⟩) = aa
    go_wp2_with fail
    refine wp_region_held_drew (S := fun _ => True) (by kernel_rfl) trivial (fun hHeld => ?_)
    change wpAnyH _ _ _ _ _ _ _ _ W3.drew
    generalize W3.drew = Y at kY hHeld ⊢
    refine wpAnyH_take (i := 2) (v := ?_) rfl (by kernel_rfl) (by kernel_rfl) (by kernel_rfl) (fun _ _ _ h => h) (Or.inl ⟨by rfl, ?_⟩) (by assumption) ?_
    rotate_left
    · (intro Y hSw; (try dsimp only at hSw); obtain _ := hSw; go_simp; try with_reducible rfl)
    try simp only [Act.put, List.getElem_toArray, List.getElem_cons_zero, List.getElem_cons_succ, List.setIfInBounds_toArray, List.set_cons_zero, List.set_cons_succ]
    refine wpAnyH_take (i := 3) (v := ?_) rfl (by kernel_rfl) (by kernel_rfl) (by kernel_rfl) (fun _ _ _ h => h) (Or.inl ⟨by rfl, ?_⟩) (by assumption) ?_
    rotate_left
    · (intro Y hSw; (try dsimp only at hSw); obtain _ := hSw; go_simp; try with_reducible rfl)
    try simp only [Act.put, List.getElem_toArray, List.getElem_cons_zero, List.getElem_cons_succ, List.setIfInBounds_toArray, List.set_cons_zero, List.set_cons_succ]
    refine wpAnyH_take (i := 4) (v := ?_) rfl (by kernel_rfl) (by kernel_rfl) (by kernel_rfl) (fun _ _ _ h => h) (Or.inl ⟨by rfl, ?_⟩) (by assumption) ?_
    rotate_left
    · (intro Y hSw; (try dsimp only at hSw); obtain _ := hSw; go_simp; try with_reducible rfl)
    try simp only [Act.put, List.getElem_toArray, List.getElem_cons_zero, List.getElem_cons_succ, List.setIfInBounds_toArray, List.set_cons_zero, List.set_cons_succ]
    refine wpAnyH_ready (rs := [0, 1]) (by kernel_rfl) (by simp) ?_
    refine AllReadyH.cons rfl (fun K hK => ?_) (AllReadyH.cons rfl (fun K hK => ?_) AllReadyH.nil)
    · rw [if_pos (by rfl)]
      refine wp_load32 _ rfl w.heap.size rfl (hA3.below kY hA3.lt) hV3.size ?_
      refine hK.out _ _ (trivial) (fun hHeld => ?_)
      clear hK K
      try simp only [Act.put, List.getElem_toArray, List.getElem_cons_zero, List.getElem_cons_succ, List.setIfInBounds_toArray, List.set_cons_zero, List.set_cons_succ]
      refine wpAnyH_ready (rs := [1]) (by kernel_rfl) (by simp) ?_
      refine AllReadyH.cons rfl (fun K hK => ?_) AllReadyH.nil
      go_simp
      obtain ⟨g, hg⟩ : ∃ g, Y.heap.size = g := ⟨_, rfl⟩
      obtain ⟨Z, hZ⟩ : ∃ Z, Y.alloc (.cells #[] 3) = Z := ⟨_, rfl⟩
      have jz : Below Y.heap.size Y Z := by rw [← hZ]; exact (Below.refl _ Y).alloc (Nat.le_refl _) _
      have ho : Z.ownsRow W3.heap.size 3 1 (.slice (some ⟨g, 0, none⟩) 0 0) 0 [] := by rw [← hZ, ← hg]; exact World.ownsRow_made Y #[] 0 kY.size (by decide) rfl
      rw [hZ, hg]
      replace kY := kY.trans (jz.mono kY.size)
      clear hZ
      refine hK.out _ _ (trivial) (fun hHeld => ?_)
      clear hK K
      try simp only [Act.put, List.getElem_toArray, List.getElem_cons_zero, List.getElem_cons_succ, List.setIfInBounds_toArray, List.set_cons_zero, List.set_cons_succ]
      obtain ⟨Y, rfl⟩ : ∃ Y : World, Y = Z := ⟨_, rfl⟩
      refine wpAnyH_ready (rs := [5]) (by kernel_rfl) (by simp) ?_
      refine AllReadyH.cons rfl (fun K hK => ?_) AllReadyH.nil
      rw [if_pos (by rfl)]
      refine wp_append_any _ _ 35 rfl W3.heap.size Try.underlying35 info64 0 [] rfl ho B l.length (intVals .i64 (l.take l.length)) rfl ((HU.out.below k03 hB0).below kY (by omega)) (by rw [intVals_len]; simp; try omega) (intVals_one _ _) (by unfold maxLen; omega) (by omega) kY.size ?_
      intro v5 Z ho5 hg2
      rw [Nat.zero_add, List.nil_append] at ho5
      replace kY := kY.appended ho hg2 (Nat.le_refl _) kY.size
      clear ho hg2
      refine hK.out _ _ (trivial) (fun hHeld => ?_)
      clear hK K
      try simp only [Act.put, List.getElem_toArray, List.getElem_cons_zero, List.getElem_cons_succ, List.setIfInBounds_toArray, List.set_cons_zero, List.set_cons_succ]
      obtain ⟨Y, rfl⟩ : ∃ Y : World, Y = Z := ⟨_, rfl⟩
      refine wpAnyH_ready (rs := [6]) (by kernel_rfl) (by simp) ?_
      refine AllReadyH.cons rfl (fun K hK => ?_) AllReadyH.nil
      rw [if_pos (by rfl)]
      refine wp_store32 _ _ rfl (w.heap.size + 1) cs3 rfl rfl (hO3.below kY hO3.lt) rfl hV3.size hV3.one ?_
      refine hK.out _ _ (trivial) (fun hHeld => ?_)
      clear hK K
      try simp only [Act.put, List.getElem_toArray, List.getElem_cons_zero, List.getElem_cons_succ, List.setIfInBounds_toArray, List.set_cons_zero, List.set_cons_succ]
      refine wpAnyH_take (i := 7) (v := ?_) rfl (by kernel_rfl) (by kernel_rfl) (by kernel_rfl) (fun _ _ _ h => h) (Or.inl ⟨by rfl, ?_⟩) (by assumption) ?_
      rotate_left
      · (intro Y hSw; (try dsimp only at hSw); obtain _ := hSw; go_simp; try with_reducible rfl)
      try simp only [Act.put, List.getElem_toArray, List.getElem_cons_zero, List.getElem_cons_succ, List.setIfInBounds_toArray, List.set_cons_zero, List.set_cons_succ]
      refine wpAnyH_take (i := 8) (v := ?_) rfl (by kernel_rfl) (by kernel_rfl) (by kernel_rfl) (fun _ _ _ h => h) (Or.inl ⟨by rfl, ?_⟩) (by assumption) ?_
      rotate_left
      · (intro Y hSw; (try dsimp only at hSw); obtain _ := hSw; go_simp; try with_reducible rfl)
      try simp only [Act.put, List.getElem_toArray, List.getElem_cons_zero, List.getElem_cons_succ, List.setIfInBounds_toArray, List.set_cons_zero, List.set_cons_succ]
      refine wpAnyH_done (by kernel_rfl) ?_ _
      go_wp2_with fail
      refine ret_c3 rfl (w.heap.size + 1) rfl ((hO3.below kY hO3.lt).setRow cs3) hV3.size rfl ?_
      have k4 := bel_setRow (g := w.heap.size + 1) (k3.trans (kY.mono (by omega))) (by omega) cs3
      have ho6 := ((Chg.refl (w.heap.size + 1) Y).setRow cs3).owns ho5 (by omega)
      have ho7 := ((Chg.refl (w.heap.size + 1) Y).setRow cs3).owns (owns_below ho3 kY (Nat.le_refl _)) (by omega)
      refine ⟨cs3, _, by rw [H0.out]; rfl, ?_, ?_, k4⟩
      · rw [HF.out]
        have hfin := ((hV.below k4 hB).mono (by have := k4.size; omega)).set (a * 8 + b) (by omega) (l.drop l.length) (by simp; try omega) (RowAt.of_owns ho7 (Nat.le_refl _)) (owns_plain ho7)
        rw [HCS.out] at hfin
        exact hfin
      · rw [HL9.out]
        have := RowAt.of_owns (B := (Y.setRow (w.heap.size + 1) cs3).heap.size) ho6 (Nat.le_refl _)
        rw [show (l.take l.length).length = l.length by simp; try omega]
        exact this
    · go_simp
      obtain ⟨g, hg⟩ : ∃ g, Y.heap.size = g := ⟨_, rfl⟩
      obtain ⟨Z, hZ⟩ : ∃ Z, Y.alloc (.cells #[] 3) = Z := ⟨_, rfl⟩
      have jz : Below Y.heap.size Y Z := by rw [← hZ]; exact (Below.refl _ Y).alloc (Nat.le_refl _) _
      have ho : Z.ownsRow W3.heap.size 3 1 (.slice (some ⟨g, 0, none⟩) 0 0) 0 [] := by rw [← hZ, ← hg]; exact World.ownsRow_made Y #[] 0 kY.size (by decide) rfl
      rw [hZ, hg]
      replace kY := kY.trans (jz.mono kY.size)
      clear hZ
      refine hK.out _ _ (trivial) (fun hHeld => ?_)
      clear hK K
      try simp only [Act.put, List.getElem_toArray, List.getElem_cons_zero, List.getElem_cons_succ, List.setIfInBounds_toArray, List.set_cons_zero, List.set_cons_succ]
      obtain ⟨Y, rfl⟩ : ∃ Y : World, Y = Z := ⟨_, rfl⟩
      refine wpAnyH_ready (rs := [0, 5]) (by kernel_rfl) (by simp) ?_
      refine AllReadyH.cons rfl (fun K hK => ?_) (AllReadyH.cons rfl (fun K hK => ?_) AllReadyH.nil)
      · rw [if_pos (by rfl)]
        refine wp_load32 _ rfl w.heap.size rfl (hA3.below kY hA3.lt) hV3.size ?_
        refine hK.out _ _ (trivial) (fun hHeld => ?_)
        clear hK K
        try simp only [Act.put, List.getElem_toArray, List.getElem_cons_zero, List.getElem_cons_succ, List.setIfInBounds_toArray, List.set_cons_zero, List.set_cons_succ]
        refine wpAnyH_ready (rs := [5]) (by kernel_rfl) (by simp) ?_
        refine AllReadyH.cons rfl (fun K hK => ?_) AllReadyH.nil
        rw [if_pos (by rfl)]
        refine wp_append_any _ _ 35 rfl W3.heap.size Try.underlying35 info64 0 [] rfl ho B l.length (intVals .i64 (l.take l.length)) rfl ((HU.out.below k03 hB0).below kY (by omega)) (by rw [intVals_len]; simp; try omega) (intVals_one _ _) (by unfold maxLen; omega) (by omega) kY.size ?_
        intro v5 Z ho5 hg2
        rw [Nat.zero_add, List.nil_append] at ho5
        replace kY := kY.appended ho hg2 (Nat.le_refl _) kY.size
        clear ho hg2
        refine hK.out _ _ (trivial) (fun hHeld => ?_)
        clear hK K
        try simp only [Act.put, List.getElem_toArray, List.getElem_cons_zero, List.getElem_cons_succ, List.setIfInBounds_toArray, List.set_cons_zero, List.set_cons_succ]
        obtain ⟨Y, rfl⟩ : ∃ Y : World, Y = Z := ⟨_, rfl⟩
        refine wpAnyH_ready (rs := [6]) (by kernel_rfl) (by simp) ?_
        refine AllReadyH.cons rfl (fun K hK => ?_) AllReadyH.nil
        rw [if_pos (by rfl)]
        refine wp_store32 _ _ rfl (w.heap.size + 1) cs3 rfl rfl (hO3.below kY hO3.lt) rfl hV3.size hV3.one ?_
        refine hK.out _ _ (trivial) (fun hHeld => ?_)
        clear hK K
        try simp only [Act.put, List.getElem_toArray, List.getElem_cons_zero, List.getElem_cons_succ, List.setIfInBounds_toArray, List.set_cons_zero, List.set_cons_succ]
        refine wpAnyH_take (i := 7) (v := ?_) rfl (by kernel_rfl) (by kernel_rfl) (by kernel_rfl) (fun _ _ _ h => h) (Or.inl ⟨by rfl, ?_⟩) (by assumption) ?_
        rotate_left
        · (intro Y hSw; (try dsimp only at hSw); obtain _ := hSw; go_simp; try with_reducible rfl)
        try simp only [Act.put, List.getElem_toArray, List.getElem_cons_zero, List.getElem_cons_succ, List.setIfInBounds_toArray, List.set_cons_zero, List.set_cons_succ]
        refine wpAnyH_take (i := 8) (v := ?_) rfl (by kernel_rfl) (by kernel_rfl) (by kernel_rfl) (fun _ _ _ h => h) (Or.inl ⟨by rfl, ?_⟩) (by assumption) ?_
        rotate_left
        · (intro Y hSw; (try dsimp only at hSw); obtain _ := hSw; go_simp; try with_reducible rfl)
        try simp only [Act.put, List.getElem_toArray, List.getElem_cons_zero, List.getElem_cons_succ, List.setIfInBounds_toArray, List.set_cons_zero, List.set_cons_succ]
        refine wpAnyH_done (by kernel_rfl) ?_ _
        go_wp2_with fail
        refine ret_c3 rfl (w.heap.size + 1) rfl ((hO3.below kY hO3.lt).setRow cs3) hV3.size rfl ?_
        have k4 := bel_setRow (g := w.heap.size + 1) (k3.trans (kY.mono (by omega))) (by omega) cs3
        have ho6 := ((Chg.refl (w.heap.size + 1) Y).setRow cs3).owns ho5 (by omega)
        have ho7 := ((Chg.refl (w.heap.size + 1) Y).setRow cs3).owns (owns_below ho3 kY (Nat.le_refl _)) (by omega)
        refine ⟨cs3, _, by rw [H0.out]; rfl, ?_, ?_, k4⟩
        · rw [HF.out]
          have hfin := ((hV.below k4 hB).mono (by have := k4.size; omega)).set (a * 8 + b) (by omega) (l.drop l.length) (by simp; try omega) (RowAt.of_owns ho7 (Nat.le_refl _)) (owns_plain ho7)
          rw [HCS.out] at hfin
          exact hfin
        · rw [HL9.out]
          have := RowAt.of_owns (B := (Y.setRow (w.heap.size + 1) cs3).heap.size) ho6 (Nat.le_refl _)
          rw [show (l.take l.length).length = l.length by simp; try omega]
          exact this
      · rw [if_pos (by rfl)]
        refine wp_append_any _ _ 35 rfl W3.heap.size Try.underlying35 info64 0 [] rfl ho B l.length (intVals .i64 (l.take l.length)) rfl ((HU.out.below k03 hB0).below kY (by omega)) (by rw [intVals_len]; simp; try omega) (intVals_one _ _) (by unfold maxLen; omega) (by omega) kY.size ?_
        intro v5 Z ho5 hg2
        rw [Nat.zero_add, List.nil_append] at ho5
        replace kY := kY.appended ho hg2 (Nat.le_refl _) kY.size
        clear ho hg2
        refine hK.out _ _ (trivial) (fun hHeld => ?_)
        clear hK K
        try simp only [Act.put, List.getElem_toArray, List.getElem_cons_zero, List.getElem_cons_succ, List.setIfInBounds_toArray, List.set_cons_zero, List.set_cons_succ]
        obtain ⟨Y, rfl⟩ : ∃ Y : World, Y = Z := ⟨_, rfl⟩
        refine wpAnyH_ready (rs := [0]) (by kernel_rfl) (by simp) ?_
        refine AllReadyH.cons rfl (fun K hK => ?_) AllReadyH.nil
        rw [if_pos (by rfl)]
        refine wp_load32 _ rfl w.heap.size rfl (hA3.below kY hA3.lt) hV3.size ?_
        refine hK.out _ _ (trivial) (fun hHeld => ?_)
        clear hK K
        try simp only [Act.put, List.getElem_toArray, List.getElem_cons_zero, List.getElem_cons_succ, List.setIfInBounds_toArray, List.set_cons_zero, List.set_cons_succ]
        refine wpAnyH_ready (rs := [6]) (by kernel_rfl) (by simp) ?_
        refine AllReadyH.cons rfl (fun K hK => ?_) AllReadyH.nil
        rw [if_pos (by rfl)]
        refine wp_store32 _ _ rfl (w.heap.size + 1) cs3 rfl rfl (hO3.below kY hO3.lt) rfl hV3.size hV3.one ?_
        refine hK.out _ _ (trivial) (fun hHeld => ?_)
        clear hK K
        try simp only [Act.put, List.getElem_toArray, List.getElem_cons_zero, List.getElem_cons_succ, List.setIfInBounds_toArray, List.set_cons_zero, List.set_cons_succ]
        refine wpAnyH_take (i := 7) (v := ?_) rfl (by kernel_rfl) (by kernel_rfl) (by kernel_rfl) (fun _ _ _ h => h) (Or.inl ⟨by rfl, ?_⟩) (by assumption) ?_
        rotate_left
        · (intro Y hSw; (try dsimp only at hSw); obtain _ := hSw; go_simp; try with_reducible rfl)
        try simp only [Act.put, List.getElem_toArray, List.getElem_cons_zero, List.getElem_cons_succ, List.setIfInBounds_toArray, List.set_cons_zero, List.set_cons_succ]
        refine wpAnyH_take (i := 8) (v := ?_) rfl (by kernel_rfl) (by kernel_rfl) (by kernel_rfl) (fun _ _ _ h => h) (Or.inl ⟨by rfl, ?_⟩) (by assumption) ?_
        rotate_left
        · (intro Y hSw; (try dsimp only at hSw); obtain _ := hSw; go_simp; try with_reducible rfl)
        try simp only [Act.put, List.getElem_toArray, List.getElem_cons_zero, List.getElem_cons_succ, List.setIfInBounds_toArray, List.set_cons_zero, List.set_cons_succ]
        refine wpAnyH_done (by kernel_rfl) ?_ _
        go_wp2_with fail
        refine ret_c3 rfl (w.heap.size + 1) rfl ((hO3.below kY hO3.lt).setRow cs3) hV3.size rfl ?_
        have k4 := bel_setRow (g := w.heap.size + 1) (k3.trans (kY.mono (by omega))) (by omega) cs3
        have ho6 := ((Chg.refl (w.heap.size + 1) Y).setRow cs3).owns ho5 (by omega)
        have ho7 := ((Chg.refl (w.heap.size + 1) Y).setRow cs3).owns (owns_below ho3 kY (Nat.le_refl _)) (by omega)
        refine ⟨cs3, _, by rw [H0.out]; rfl, ?_, ?_, k4⟩
        · rw [HF.out]
          have hfin := ((hV.below k4 hB).mono (by have := k4.size; omega)).set (a * 8 + b) (by omega) (l.drop l.length) (by simp; try omega) (RowAt.of_owns ho7 (Nat.le_refl _)) (owns_plain ho7)
          rw [HCS.out] at hfin
          exact hfin
        · rw [HL9.out]
          have := RowAt.of_owns (B := (Y.setRow (w.heap.size + 1) cs3).heap.size) ho6 (Nat.le_refl _)
          rw [show (l.take l.length).length = l.length by simp; try omega]
          exact this
  · have i0 : (4 : Int) ≤ l.length := by omega
    have i1 : (4 : Int) ≤ lc := by omega
    have i2 : (l.length : Int) ≤ lc := by omega
    have hu := hr.upTo 4 (by omega)
    have hf := hr.onFrom 4 (by omega)
    have hE9 : splL R a b = l.take 4 := by unfold splL; rw [if_pos h0, Int.toNat_natCast, Int.toNat_natCast, HL.out]
    have hF9 : splAfter R a b = upd R (a * 8 + b) (l.drop 4) := by unfold splAfter; rw [if_pos h0, Int.toNat_natCast, Int.toNat_natCast, HL.out]
    have HL9 := Lib.hid hE9
    have HF := Lib.hid hF9
    clear hE9 hF9 hr
    go_wp2_with fail
    have HU := Lib.hid hu
    have HD := Lib.hid hf
    have kY : Below w0.heap.size w0 w0.drew := (Below.refl _ w0).drew
    clear hu hf
    refine wp_region_held_drew (S := fun _ => True) (by kernel_rfl) trivial (fun hHeld => ?_)
    change wpAnyH _ _ _ _ _ _ _ _ w0.drew
    generalize w0.drew = Y at kY hHeld ⊢
    refine wpAnyH_take (i := 0) (v := ?_) rfl (by kernel_rfl) (by kernel_rfl) (by kernel_rfl) (fun _ _ _ h => h) (Or.inl ⟨by rfl, ?_⟩) (by assumption) ?_
    rotate_left
    · (intro Y hSw; (try dsimp only at hSw); obtain _ := hSw; go_simp; try with_reducible rfl)
    try simp only [Act.put, List.getElem_toArray, List.getElem_cons_zero, List.getElem_cons_succ, List.setIfInBounds_toArray, List.set_cons_zero, List.set_cons_succ]
    refine wpAnyH_take (i := 1) (v := ?_) rfl (by kernel_rfl) (by kernel_rfl) (by kernel_rfl) (fun _ _ _ h => h) (Or.inl ⟨by rfl, ?_⟩) (by assumption) ?_
    rotate_left
    · (intro Y hSw; (try dsimp only at hSw); obtain _ := hSw; go_simp; try with_reducible rfl)
    try simp only [Act.put, List.getElem_toArray, List.getElem_cons_zero, List.getElem_cons_succ, List.setIfInBounds_toArray, List.set_cons_zero, List.set_cons_succ]
    refine wpAnyH_take (i := 3) (v := ?_) rfl (by kernel_rfl) (by kernel_rfl) (by kernel_rfl) (fun _ _ _ h => h) (Or.inl ⟨by rfl, ?_⟩) (by assumption) ?_
    rotate_left
    · (intro Y hSw; (try dsimp only at hSw); obtain _ := hSw; go_simp; try with_reducible rfl)
    try simp only [Act.put, List.getElem_toArray, List.getElem_cons_zero, List.getElem_cons_succ, List.setIfInBounds_toArray, List.set_cons_zero, List.set_cons_succ]
    refine wpAnyH_take (i := 4) (v := ?_) rfl (by kernel_rfl) (by kernel_rfl) (by kernel_rfl) (fun _ _ _ h => h) (Or.inl ⟨by rfl, ?_⟩) (by assumption) ?_
    rotate_left
    · (intro Y hSw; (try dsimp only at hSw); obtain _ := hSw; go_simp; try with_reducible rfl)
    try simp only [Act.put, List.getElem_toArray, List.getElem_cons_zero, List.getElem_cons_succ, List.setIfInBounds_toArray, List.set_cons_zero, List.set_cons_succ]
    refine wpAnyH_take (i := 5) (v := ?_) rfl (by kernel_rfl) (by kernel_rfl) (by kernel_rfl) (fun _ _ _ h => h) (Or.inl ⟨by rfl, ?_⟩) (by assumption) ?_
    rotate_left
    · (intro Y hSw; (try dsimp only at hSw); obtain _ := hSw; go_simp; try with_reducible rfl)
    try simp only [Act.put, List.getElem_toArray, List.getElem_cons_zero, List.getElem_cons_succ, List.setIfInBounds_toArray, List.set_cons_zero, List.set_cons_succ]
    refine wpAnyH_take (i := 7) (v := ?_) rfl (by kernel_rfl) (by kernel_rfl) (by kernel_rfl) (fun _ _ _ h => h) (Or.inl ⟨by rfl, ?_⟩) (by assumption) ?_
    rotate_left
    · (intro Y hSw; (try dsimp only at hSw); obtain _ := hSw; go_simp; try with_reducible rfl)
    try simp only [Act.put, List.getElem_toArray, List.getElem_cons_zero, List.getElem_cons_succ, List.setIfInBounds_toArray, List.set_cons_zero, List.set_cons_succ]
    refine wpAnyH_ready (rs := [2]) (by kernel_rfl) (by simp) ?_
    refine AllReadyH.cons rfl (fun K hK => ?_) AllReadyH.nil
    go_simp
    obtain ⟨g, hg⟩ : ∃ g, Y.heap.size = g := ⟨_, rfl⟩
    obtain ⟨Z, hZ⟩ : ∃ Z, Y.alloc (.cells #[] 3) = Z := ⟨_, rfl⟩
    have jz : Below Y.heap.size Y Z := by rw [← hZ]; exact (Below.refl _ Y).alloc (Nat.le_refl _) _
    have ho : Z.ownsRow w0.heap.size 3 1 (.slice (some ⟨g, 0, none⟩) 0 0) 0 [] := by rw [← hZ, ← hg]; exact World.ownsRow_made Y #[] 0 kY.size (by decide) rfl
    rw [hZ, hg]
    replace kY := kY.trans (jz.mono kY.size)
    clear hZ
    refine hK.out _ _ (trivial) (fun hHeld => ?_)
    clear hK K
    try simp only [Act.put, List.getElem_toArray, List.getElem_cons_zero, List.getElem_cons_succ, List.setIfInBounds_toArray, List.set_cons_zero, List.set_cons_succ]
    obtain ⟨Y, rfl⟩ : ∃ Y : World, Y = Z := ⟨_, rfl⟩
    refine wpAnyH_ready (rs := [6]) (by kernel_rfl) (by simp) ?_
    refine AllReadyH.cons rfl (fun K hK => ?_) AllReadyH.nil
    rw [if_pos (by rfl)]
    refine wp_append_any _ _ 35 rfl w0.heap.size Try.underlying35 info64 0 [] rfl ho B (l.length - 4) (intVals .i64 (l.drop 4)) rfl (HD.out.below kY (by omega)) (by rw [intVals_len]; simp; try omega) (intVals_one _ _) (by unfold maxLen; omega) (by omega) kY.size ?_
    intro v3 Z ho3 hg2
    rw [Nat.zero_add, List.nil_append] at ho3
    replace kY := kY.appended ho hg2 (Nat.le_refl _) kY.size
    clear ho hg2
    obtain ⟨a2, c2, rfl, _⟩ := (RowAt.of_owns ho3 (Nat.le_refl _)).len
    refine hK.out _ _ (trivial) (fun hHeld => ?_)
    clear hK K
    try simp only [Act.put, List.getElem_toArray, List.getElem_cons_zero, List.getElem_cons_succ, List.setIfInBounds_toArray, List.set_cons_zero, List.set_cons_succ]
    obtain ⟨Y, rfl⟩ : ∃ Y : World, Y = Z := ⟨_, rfl⟩
    refine wpAnyH_take (i := 8) (v := ?_) rfl (by kernel_rfl) (by kernel_rfl) (by kernel_rfl) (fun _ _ _ h => h) (Or.inl ⟨by rfl, ?_⟩) (by assumption) ?_
    rotate_left
    · (intro Y hSw; (try dsimp only at hSw); obtain _ := hSw; go_simp; try with_reducible rfl)
    try simp only [Act.put, List.getElem_toArray, List.getElem_cons_zero, List.getElem_cons_succ, List.setIfInBounds_toArray, List.set_cons_zero, List.set_cons_succ]
    refine wpAnyH_ready (rs := [9]) (by kernel_rfl) (by simp) ?_
    refine AllReadyH.cons rfl (fun K hK => ?_) AllReadyH.nil
    go_simp
    have hcw : Y.cell? ⟨w.heap.size, a * 8 + b, none⟩ = some (.slice (some ⟨bb, off, none⟩) l.length lc) := (kY.cell (p := ⟨w.heap.size, a * 8 + b, none⟩) hA.lt).trans q
    have hfw : Y.frozen? ⟨w.heap.size, a * 8 + b, none⟩ = false := (hA.below kY hA.lt).frozen _
    go_simp
    refine hK.out _ _ (trivial) (fun hHeld => ?_)
    clear hK K
    try simp only [Act.put, List.getElem_toArray, List.getElem_cons_zero, List.getElem_cons_succ, List.setIfInBounds_toArray, List.set_cons_zero, List.set_cons_succ]
    refine wpAnyH_done (by kernel_rfl) ?_ _
    obtain ⟨W3, hW3⟩ : ∃ W3, Y.setCell ⟨w.heap.size, a * 8 + b, none⟩ (.slice a2 (l.length - 4) c2) = W3 := ⟨_, rfl⟩
    obtain ⟨cs3, hcs3⟩ : ∃ cs3, cs.setIfInBounds (a * 8 + b) (.slice a2 (l.length - 4) c2) = cs3 := ⟨_, rfl⟩
    have hA3 : Blk W3 w.heap.size cs3 44 := by rw [← hW3, ← hcs3]; exact (hA.below kY hA.lt).set _ _
    have hO3 : Blk W3 (w.heap.size + 1) #[.slice none 0 0, .slice none 0 0, .slice none 0 0, .slice none 0 0, .slice none 0 0, .slice none 0 0, .slice none 0 0, .slice none 0 0, .slice none 0 0, .slice none 0 0, .slice none 0 0, .slice none 0 0, .slice none 0 0, .slice none 0 0, .slice none 0 0, .slice none 0 0, .slice none 0 0, .slice none 0 0, .slice none 0 0, .slice none 0 0, .slice none 0 0, .slice none 0 0, .slice none 0 0, .slice none 0 0, .slice none 0 0, .slice none 0 0, .slice none 0 0, .slice none 0 0, .slice none 0 0, .slice none 0 0, .slice none 0 0, .slice none 0 0] 44 := by rw [← hW3]; exact (hO.below kY hO.lt).setOther _ _ (by show w.heap.size + 1 ≠ w.heap.size; omega)
    have k3 : Below w.heap.size w W3 := by rw [← hW3]; exact (hb0.trans (kY.mono (by omega))).setCell (p := ⟨w.heap.size, a * 8 + b, none⟩) (Nat.le_refl _) _
    have k03 : Below w.heap.size w0 W3 := by rw [← hW3]; exact (kY.mono (by omega)).setCell (p := ⟨w.heap.size, a * 8 + b, none⟩) (Nat.le_refl _) _
    replace ho3 : W3.ownsRow w0.heap.size 3 1 (.slice a2 (l.length - 4) c2) (l.length - 4) (intVals .i64 (l.drop 4)) := by rw [← hW3]; exact ((Chg.refl w.heap.size Y).setc ⟨w.heap.size, a * 8 + b, none⟩ _ rfl).owns ho3 (by omega)
    have hV3 : RefV W3.heap.size W3 cs3 (upd R (a * 8 + b) (l.drop 4)) := by rw [← hcs3]; exact ((hV.below k3 hB).mono (by have := k3.size; omega)).set (a * 8 + b) (by omega) _ (by simp; try omega) (RowAt.of_owns ho3 (Nat.le_refl _)) (owns_plain ho3)
    have HCS := Lib.hid hcs3
    have z3 : w0.heap.size ≤ W3.heap.size := by rw [← hW3]; simpa using kY.size
    rw [hW3]
    clear hcw hfw hW3 kY hHeld hcs3 hA hO q hfz
    have kY : Below W3.heap.size W3 W3.drew := (Below.refl _ W3).drew
    clear HD
    try generalize (if lc = 4 then (some ⟨bb, off, none⟩ : Option Addr) else some ⟨bb, off + 4, none⟩) = aa
    go_wp2_with fail
    refine wp_region_held_drew (S := fun _ => True) (by kernel_rfl) trivial (fun hHeld => ?_)
    change wpAnyH _ _ _ _ _ _ _ _ W3.drew
    generalize W3.drew = Y at kY hHeld ⊢
    refine wpAnyH_take (i := 2) (v := ?_) rfl (by kernel_rfl) (by kernel_rfl) (by kernel_rfl) (fun _ _ _ h => h) (Or.inl ⟨by rfl, ?_⟩) (by assumption) ?_
    rotate_left
    · (intro Y hSw; (try dsimp only at hSw); obtain _ := hSw; go_simp; try with_reducible rfl)
    try simp only [Act.put, List.getElem_toArray, List.getElem_cons_zero, List.getElem_cons_succ, List.setIfInBounds_toArray, List.set_cons_zero, List.set_cons_succ]
    refine wpAnyH_take (i := 3) (v := ?_) rfl (by kernel_rfl) (by kernel_rfl) (by kernel_rfl) (fun _ _ _ h => h) (Or.inl ⟨by rfl, ?_⟩) (by assumption) ?_
    rotate_left
    · (intro Y hSw; (try dsimp only at hSw); obtain _ := hSw; go_simp; try with_reducible rfl)
    try simp only [Act.put, List.getElem_toArray, List.getElem_cons_zero, List.getElem_cons_succ, List.setIfInBounds_toArray, List.set_cons_zero, List.set_cons_succ]
    refine wpAnyH_take (i := 4) (v := ?_) rfl (by kernel_rfl) (by kernel_rfl) (by kernel_rfl) (fun _ _ _ h => h) (Or.inl ⟨by rfl, ?_⟩) (by assumption) ?_
    rotate_left
    · (intro Y hSw; (try dsimp only at hSw); obtain _ := hSw; go_simp; try with_reducible rfl)
    try simp only [Act.put, List.getElem_toArray, List.getElem_cons_zero, List.getElem_cons_succ, List.setIfInBounds_toArray, List.set_cons_zero, List.set_cons_succ]
    refine wpAnyH_ready (rs := [0, 1]) (by kernel_rfl) (by simp) ?_
    refine AllReadyH.cons rfl (fun K hK => ?_) (AllReadyH.cons rfl (fun K hK => ?_) AllReadyH.nil)
    · rw [if_pos (by rfl)]
      refine wp_load32 _ rfl w.heap.size rfl (hA3.below kY hA3.lt) hV3.size ?_
      refine hK.out _ _ (trivial) (fun hHeld => ?_)
      clear hK K
      try simp only [Act.put, List.getElem_toArray, List.getElem_cons_zero, List.getElem_cons_succ, List.setIfInBounds_toArray, List.set_cons_zero, List.set_cons_succ]
      refine wpAnyH_ready (rs := [1]) (by kernel_rfl) (by simp) ?_
      refine AllReadyH.cons rfl (fun K hK => ?_) AllReadyH.nil
      go_simp
      obtain ⟨g, hg⟩ : ∃ g, Y.heap.size = g := ⟨_, rfl⟩
      obtain ⟨Z, hZ⟩ : ∃ Z, Y.alloc (.cells #[] 3) = Z := ⟨_, rfl⟩
      have jz : Below Y.heap.size Y Z := by rw [← hZ]; exact (Below.refl _ Y).alloc (Nat.le_refl _) _
      have ho : Z.ownsRow W3.heap.size 3 1 (.slice (some ⟨g, 0, none⟩) 0 0) 0 [] := by rw [← hZ, ← hg]; exact World.ownsRow_made Y #[] 0 kY.size (by decide) rfl
      rw [hZ, hg]
      replace kY := kY.trans (jz.mono kY.size)
      clear hZ
      refine hK.out _ _ (trivial) (fun hHeld => ?_)
      clear hK K
      try simp only [Act.put, List.getElem_toArray, List.getElem_cons_zero, List.getElem_cons_succ, List.setIfInBounds_toArray, List.set_cons_zero, List.set_cons_succ]
      obtain ⟨Y, rfl⟩ : ∃ Y : World, Y = Z := ⟨_, rfl⟩
      refine wpAnyH_ready (rs := [5]) (by kernel_rfl) (by simp) ?_
      refine AllReadyH.cons rfl (fun K hK => ?_) AllReadyH.nil
      rw [if_pos (by rfl)]
      refine wp_append_any _ _ 35 rfl W3.heap.size Try.underlying35 info64 0 [] rfl ho B 4 (intVals .i64 (l.take 4)) rfl ((HU.out.below k03 hB0).below kY (by omega)) (by rw [intVals_len]; simp; try omega) (intVals_one _ _) (by unfold maxLen; omega) (by omega) kY.size ?_
      intro v5 Z ho5 hg2
      rw [Nat.zero_add, List.nil_append] at ho5
      replace kY := kY.appended ho hg2 (Nat.le_refl _) kY.size
      clear ho hg2
      refine hK.out _ _ (trivial) (fun hHeld => ?_)
      clear hK K
      try simp only [Act.put, List.getElem_toArray, List.getElem_cons_zero, List.getElem_cons_succ, List.setIfInBounds_toArray, List.set_cons_zero, List.set_cons_succ]
      obtain ⟨Y, rfl⟩ : ∃ Y : World, Y = Z := ⟨_, rfl⟩
      refine wpAnyH_ready (rs := [6]) (by kernel_rfl) (by simp) ?_
      refine AllReadyH.cons rfl (fun K hK => ?_) AllReadyH.nil
      rw [if_pos (by rfl)]
      refine wp_store32 _ _ rfl (w.heap.size + 1) cs3 rfl rfl (hO3.below kY hO3.lt) rfl hV3.size hV3.one ?_
      refine hK.out _ _ (trivial) (fun hHeld => ?_)
      clear hK K
      try simp only [Act.put, List.getElem_toArray, List.getElem_cons_zero, List.getElem_cons_succ, List.setIfInBounds_toArray, List.set_cons_zero, List.set_cons_succ]
      refine wpAnyH_take (i := 7) (v := ?_) rfl (by kernel_rfl) (by kernel_rfl) (by kernel_rfl) (fun _ _ _ h => h) (Or.inl ⟨by rfl, ?_⟩) (by assumption) ?_
      rotate_left
      · (intro Y hSw; (try dsimp only at hSw); obtain _ := hSw; go_simp; try with_reducible rfl)
      try simp only [Act.put, List.getElem_toArray, List.getElem_cons_zero, List.getElem_cons_succ, List.setIfInBounds_toArray, List.set_cons_zero, List.set_cons_succ]
      refine wpAnyH_take (i := 8) (v := ?_) rfl (by kernel_rfl) (by kernel_rfl) (by kernel_rfl) (fun _ _ _ h => h) (Or.inl ⟨by rfl, ?_⟩) (by assumption) ?_
      rotate_left
      · (intro Y hSw; (try dsimp only at hSw); obtain _ := hSw; go_simp; try with_reducible rfl)
      try simp only [Act.put, List.getElem_toArray, List.getElem_cons_zero, List.getElem_cons_succ, List.setIfInBounds_toArray, List.set_cons_zero, List.set_cons_succ]
      refine wpAnyH_done (by kernel_rfl) ?_ _
      go_wp2_with fail
      refine ret_c3 rfl (w.heap.size + 1) rfl ((hO3.below kY hO3.lt).setRow cs3) hV3.size rfl ?_
      have k4 := bel_setRow (g := w.heap.size + 1) (k3.trans (kY.mono (by omega))) (by omega) cs3
      have ho6 := ((Chg.refl (w.heap.size + 1) Y).setRow cs3).owns ho5 (by omega)
      have ho7 := ((Chg.refl (w.heap.size + 1) Y).setRow cs3).owns (owns_below ho3 kY (Nat.le_refl _)) (by omega)
      refine ⟨cs3, _, by rw [H0.out]; rfl, ?_, ?_, k4⟩
      · rw [HF.out]
        have hfin := ((hV.below k4 hB).mono (by have := k4.size; omega)).set (a * 8 + b) (by omega) (l.drop 4) (by simp; try omega) (RowAt.of_owns ho7 (Nat.le_refl _)) (owns_plain ho7)
        rw [HCS.out] at hfin
        exact hfin
      · rw [HL9.out]
        have := RowAt.of_owns (B := (Y.setRow (w.heap.size + 1) cs3).heap.size) ho6 (Nat.le_refl _)
        rw [show (l.take 4).length = 4 by simp; try omega]
        exact this
    · go_simp
      obtain ⟨g, hg⟩ : ∃ g, Y.heap.size = g := ⟨_, rfl⟩
      obtain ⟨Z, hZ⟩ : ∃ Z, Y.alloc (.cells #[] 3) = Z := ⟨_, rfl⟩
      have jz : Below Y.heap.size Y Z := by rw [← hZ]; exact (Below.refl _ Y).alloc (Nat.le_refl _) _
      have ho : Z.ownsRow W3.heap.size 3 1 (.slice (some ⟨g, 0, none⟩) 0 0) 0 [] := by rw [← hZ, ← hg]; exact World.ownsRow_made Y #[] 0 kY.size (by decide) rfl
      rw [hZ, hg]
      replace kY := kY.trans (jz.mono kY.size)
      clear hZ
      refine hK.out _ _ (trivial) (fun hHeld => ?_)
      clear hK K
      try simp only [Act.put, List.getElem_toArray, List.getElem_cons_zero, List.getElem_cons_succ, List.setIfInBounds_toArray, List.set_cons_zero, List.set_cons_succ]
      obtain ⟨Y, rfl⟩ : ∃ Y : World, Y = Z := ⟨_, rfl⟩
      refine wpAnyH_ready (rs := [0, 5]) (by kernel_rfl) (by simp) ?_
      refine AllReadyH.cons rfl (fun K hK => ?_) (AllReadyH.cons rfl (fun K hK => ?_) AllReadyH.nil)
      · rw [if_pos (by rfl)]
        refine wp_load32 _ rfl w.heap.size rfl (hA3.below kY hA3.lt) hV3.size ?_
        refine hK.out _ _ (trivial) (fun hHeld => ?_)
        clear hK K
        try simp only [Act.put, List.getElem_toArray, List.getElem_cons_zero, List.getElem_cons_succ, List.setIfInBounds_toArray, List.set_cons_zero, List.set_cons_succ]
        refine wpAnyH_ready (rs := [5]) (by kernel_rfl) (by simp) ?_
        refine AllReadyH.cons rfl (fun K hK => ?_) AllReadyH.nil
        rw [if_pos (by rfl)]
        refine wp_append_any _ _ 35 rfl W3.heap.size Try.underlying35 info64 0 [] rfl ho B 4 (intVals .i64 (l.take 4)) rfl ((HU.out.below k03 hB0).below kY (by omega)) (by rw [intVals_len]; simp; try omega) (intVals_one _ _) (by unfold maxLen; omega) (by omega) kY.size ?_
        intro v5 Z ho5 hg2
        rw [Nat.zero_add, List.nil_append] at ho5
        replace kY := kY.appended ho hg2 (Nat.le_refl _) kY.size
        clear ho hg2
        refine hK.out _ _ (trivial) (fun hHeld => ?_)
        clear hK K
        try simp only [Act.put, List.getElem_toArray, List.getElem_cons_zero, List.getElem_cons_succ, List.setIfInBounds_toArray, List.set_cons_zero, List.set_cons_succ]
        obtain ⟨Y, rfl⟩ : ∃ Y : World, Y = Z := ⟨_, rfl⟩
        refine wpAnyH_ready (rs := [6]) (by kernel_rfl) (by simp) ?_
        refine AllReadyH.cons rfl (fun K hK => ?_) AllReadyH.nil
        rw [if_pos (by rfl)]
        refine wp_store32 _ _ rfl (w.heap.size + 1) cs3 rfl rfl (hO3.below kY hO3.lt) rfl hV3.size hV3.one ?_
        refine hK.out _ _ (trivial) (fun hHeld => ?_)
        clear hK K
        try simp only [Act.put, List.getElem_toArray, List.getElem_cons_zero, List.getElem_cons_succ, List.setIfInBounds_toArray, List.set_cons_zero, List.set_cons_succ]
        refine wpAnyH_take (i := 7) (v := ?_) rfl (by kernel_rfl) (by kernel_rfl) (by kernel_rfl) (fun _ _ _ h => h) (Or.inl ⟨by rfl, ?_⟩) (by assumption) ?_
        rotate_left
        · (intro Y hSw; (try dsimp only at hSw); obtain _ := hSw; go_simp; try with_reducible rfl)
        try simp only [Act.put, List.getElem_toArray, List.getElem_cons_zero, List.getElem_cons_succ, List.setIfInBounds_toArray, List.set_cons_zero, List.set_cons_succ]
        refine wpAnyH_take (i := 8) (v := ?_) rfl (by kernel_rfl) (by kernel_rfl) (by kernel_rfl) (fun _ _ _ h => h) (Or.inl ⟨by rfl, ?_⟩) (by assumption) ?_
        rotate_left
        · (intro Y hSw; (try dsimp only at hSw); obtain _ := hSw; go_simp; try with_reducible rfl)
        try simp only [Act.put, List.getElem_toArray, List.getElem_cons_zero, List.getElem_cons_succ, List.setIfInBounds_toArray, List.set_cons_zero, List.set_cons_succ]
        refine wpAnyH_done (by kernel_rfl) ?_ _
        go_wp2_with fail
        refine ret_c3 rfl (w.heap.size + 1) rfl ((hO3.below kY hO3.lt).setRow cs3) hV3.size rfl ?_
        have k4 := bel_setRow (g := w.heap.size + 1) (k3.trans (kY.mono (by omega))) (by omega) cs3
        have ho6 := ((Chg.refl (w.heap.size + 1) Y).setRow cs3).owns ho5 (by omega)
        have ho7 := ((Chg.refl (w.heap.size + 1) Y).setRow cs3).owns (owns_below ho3 kY (Nat.le_refl _)) (by omega)
        refine ⟨cs3, _, by rw [H0.out]; rfl, ?_, ?_, k4⟩
        · rw [HF.out]
          have hfin := ((hV.below k4 hB).mono (by have := k4.size; omega)).set (a * 8 + b) (by omega) (l.drop 4) (by simp; try omega) (RowAt.of_owns ho7 (Nat.le_refl _)) (owns_plain ho7)
          rw [HCS.out] at hfin
          exact hfin
        · rw [HL9.out]
          have := RowAt.of_owns (B := (Y.setRow (w.heap.size + 1) cs3).heap.size) ho6 (Nat.le_refl _)
          rw [show (l.take 4).length = 4 by simp; try omega]
          exact this
      · rw [if_pos (by rfl)]
        refine wp_append_any _ _ 35 rfl W3.heap.size Try.underlying35 info64 0 [] rfl ho B 4 (intVals .i64 (l.take 4)) rfl ((HU.out.below k03 hB0).below kY (by omega)) (by rw [intVals_len]; simp; try omega) (intVals_one _ _) (by unfold maxLen; omega) (by omega) kY.size ?_
        intro v5 Z ho5 hg2
        rw [Nat.zero_add, List.nil_append] at ho5
        replace kY := kY.appended ho hg2 (Nat.le_refl _) kY.size
        clear ho hg2
        refine hK.out _ _ (trivial) (fun hHeld => ?_)
        clear hK K
        try simp only [Act.put, List.getElem_toArray, List.getElem_cons_zero, List.getElem_cons_succ, List.setIfInBounds_toArray, List.set_cons_zero, List.set_cons_succ]
        obtain ⟨Y, rfl⟩ : ∃ Y : World, Y = Z := ⟨_, rfl⟩
        refine wpAnyH_ready (rs := [0]) (by kernel_rfl) (by simp) ?_
        refine AllReadyH.cons rfl (fun K hK => ?_) AllReadyH.nil
        rw [if_pos (by rfl)]
        refine wp_load32 _ rfl w.heap.size rfl (hA3.below kY hA3.lt) hV3.size ?_
        refine hK.out _ _ (trivial) (fun hHeld => ?_)
        clear hK K
        try simp only [Act.put, List.getElem_toArray, List.getElem_cons_zero, List.getElem_cons_succ, List.setIfInBounds_toArray, List.set_cons_zero, List.set_cons_succ]
        refine wpAnyH_ready (rs := [6]) (by kernel_rfl) (by simp) ?_
        refine AllReadyH.cons rfl (fun K hK => ?_) AllReadyH.nil
        rw [if_pos (by rfl)]
        refine wp_store32 _ _ rfl (w.heap.size + 1) cs3 rfl rfl (hO3.below kY hO3.lt) rfl hV3.size hV3.one ?_
        refine hK.out _ _ (trivial) (fun hHeld => ?_)
        clear hK K
        try simp only [Act.put, List.getElem_toArray, List.getElem_cons_zero, List.getElem_cons_succ, List.setIfInBounds_toArray, List.set_cons_zero, List.set_cons_succ]
        refine wpAnyH_take (i := 7) (v := ?_) rfl (by kernel_rfl) (by kernel_rfl) (by kernel_rfl) (fun _ _ _ h => h) (Or.inl ⟨by rfl, ?_⟩) (by assumption) ?_
        rotate_left
        · (intro Y hSw; (try dsimp only at hSw); obtain _ := hSw; go_simp; try with_reducible rfl)
        try simp only [Act.put, List.getElem_toArray, List.getElem_cons_zero, List.getElem_cons_succ, List.setIfInBounds_toArray, List.set_cons_zero, List.set_cons_succ]
        refine wpAnyH_take (i := 8) (v := ?_) rfl (by kernel_rfl) (by kernel_rfl) (by kernel_rfl) (fun _ _ _ h => h) (Or.inl ⟨by rfl, ?_⟩) (by assumption) ?_
        rotate_left
        · (intro Y hSw; (try dsimp only at hSw); obtain _ := hSw; go_simp; try with_reducible rfl)
        try simp only [Act.put, List.getElem_toArray, List.getElem_cons_zero, List.getElem_cons_succ, List.setIfInBounds_toArray, List.set_cons_zero, List.set_cons_succ]
        refine wpAnyH_done (by kernel_rfl) ?_ _
        go_wp2_with fail
        refine ret_c3 rfl (w.heap.size + 1) rfl ((hO3.below kY hO3.lt).setRow cs3) hV3.size rfl ?_
        have k4 := bel_setRow (g := w.heap.size + 1) (k3.trans (kY.mono (by omega))) (by omega) cs3
        have ho6 := ((Chg.refl (w.heap.size + 1) Y).setRow cs3).owns ho5 (by omega)
        have ho7 := ((Chg.refl (w.heap.size + 1) Y).setRow cs3).owns (owns_below ho3 kY (Nat.le_refl _)) (by omega)
        refine ⟨cs3, _, by rw [H0.out]; rfl, ?_, ?_, k4⟩
        · rw [HF.out]
          have hfin := ((hV.below k4 hB).mono (by have := k4.size; omega)).set (a * 8 + b) (by omega) (l.drop 4) (by simp; try omega) (RowAt.of_owns ho7 (Nat.le_refl _)) (owns_plain ho7)
          rw [HCS.out] at hfin
          exact hfin
        · rw [HL9.out]
          have := RowAt.of_owns (B := (Y.setRow (w.heap.size + 1) cs3).heap.size) ho6 (Nat.le_refl _)
          rw [show (l.take 4).length = 4 by simp; try omega]
          exact this
end Go.Proofs.Ytkilmppmghkigaa
