/-
  Package pinfoldlaw18: none. No condition.
-/
import Derived.Test.YtkilmppmghkigaaCaX
import Derived.Test.YtkilmppmghkigaaCaN
namespace Go.Proofs.Ytkilmppmghkigaa
open Go.RowKit
attribute [local go_sem] Oper.semAt_some
set_option maxHeartbeats 8000000
set_option maxRecDepth 8000

theorem all_none {w : World} {p : Option Addr} (hS : NoSh w p) : Calls Try.prog 43 #[.pointer p, .int .i64 0, .int .i64 9] w fun e w' =>
    ∃ b off cap, e = .returned (.slice (some ⟨b, off, none⟩) 256 cap) ∧ w'.cell? ⟨b, off, none⟩ = some (.int .i64 (-1)) ∧ Below w.heap.size w w' := by
  have h0 : pTo (fun _ => ([] : List Int)) 4 = [] := by simp [pTo]
  refine (all_ok (ons_none hS 0) (by rw [h0]; simp) (by simp) (by rw [h0]; simp) (by rw [h0]; simp) 9 (by rw [h0]; simp) (by omega)).mono ?_
  rintro e w' ⟨v, rfl, ho, k⟩
  rw [h0] at ho
  obtain ⟨l, hl⟩ : ∃ l, (List.range 256).map (outL (allL [])) = l := ⟨_, rfl⟩
  rw [hl] at ho
  have hlen : l.length = 256 := by rw [← hl]; simp
  have hr : RowAt w'.heap.size w' v l.length (intVals .i64 l) := by rw [hlen]; exact RowAt.of_owns ho (Nat.le_refl _)
  obtain ⟨ad, cap, rfl, _⟩ := hr.len
  obtain ⟨b, off, rfl, _, q⟩ := hr.geti 0 (by omega)
  refine ⟨b, off, cap, by rw [hlen], ?_, k⟩
  have h9 : l[0]'(by omega) = -1 := by subst hl; simp [allL, srt, encP, outL]
  rw [h9] at q
  exact q
theorem none_body (z : Bool) (w : World) : Calls Try.prog 18 #[.bool z] w fun e w' => e = .returned (.bool true) ∧ Below w.heap.size w w' := by
  cases z with
  | false =>
    have hS : NoSh w none := .inl rfl
    have k := Below.refl w.heap.size w
    go_enter Try.func18, Try.ntmps18
    go_wp2_with fail
    refine (Take_none hS 0 0).mono ?_; rintro e w1 ⟨rfl, h⟩
    replace k := k.trans (h.mono k.size)
    replace hS := hS.step h
    clear h
    go_wp2_with fail
    refine (Spill_none hS 0 0).mono ?_; rintro e w1 ⟨rfl, h⟩
    replace k := k.trans (h.mono k.size)
    replace hS := hS.step h
    clear h
    go_wp2_with fail
    refine (Drop_none hS 0 0).mono ?_; rintro e w1 ⟨rfl, h⟩
    replace k := k.trans (h.mono k.size)
    replace hS := hS.step h
    clear h
    go_wp2_with fail
    refine (Clear_none hS 0).mono ?_; rintro e w1 ⟨rfl, h⟩
    replace k := k.trans (h.mono k.size)
    replace hS := hS.step h
    clear h
    go_wp2_with fail
    refine (Has_none hS 0 0).mono ?_; rintro e w1 ⟨rfl, h⟩
    replace k := k.trans (h.mono k.size)
    replace hS := hS.step h
    clear h
    go_wp2_with fail
    refine (all_none hS).mono ?_; rintro e w1 ⟨b, off, cap, rfl, q, h⟩
    replace k := k.trans (h.mono k.size)
    replace hS := hS.step h
    clear h
    go_wp2_with fail
    refine (num_calls _ _).mono ?_; rintro e _ ⟨rfl, rfl⟩
    go_wp2_with fail
    refine (num_calls _ _).mono ?_; rintro e _ ⟨rfl, rfl⟩
    go_wp2_with fail
    refine (num_calls _ _).mono ?_; rintro e _ ⟨rfl, rfl⟩
    go_wp2_with fail
    refine (num_calls _ _).mono ?_; rintro e _ ⟨rfl, rfl⟩
    go_wp2_with fail
    refine (Put_none hS 0 0 0).mono ?_; rintro e w1 ⟨rfl, h⟩
    replace k := k.trans (h.mono k.size)
    replace hS := hS.step h
    replace q := (h.cell (p := ⟨b, off, none⟩) (World.block_lt_of_cell? _ _ q)).trans q
    clear h
    go_wp2_with fail
    refine (num_calls _ _).mono ?_; rintro e _ ⟨rfl, rfl⟩
    go_wp2_with fail
    refine (Len_none hS 0 0).mono ?_; rintro e w1 ⟨rfl, h⟩
    replace k := k.trans (h.mono k.size)
    replace hS := hS.step h
    replace q := (h.cell (p := ⟨b, off, none⟩) (World.block_lt_of_cell? _ _ q)).trans q
    clear h
    go_wp2_with fail
    refine (On_none hS 0 0).mono ?_; rintro e w1 ⟨rfl, h⟩
    replace k := k.trans (h.mono k.size)
    replace hS := hS.step h
    replace q := (h.cell (p := ⟨b, off, none⟩) (World.block_lt_of_cell? _ _ q)).trans q
    clear h
    go_wp2_with fail
    refine (Copy_none hS).mono ?_; rintro e w1 ⟨rfl, h⟩
    replace k := k.trans (h.mono k.size)
    replace hS := hS.step h
    replace q := (h.cell (p := ⟨b, off, none⟩) (World.block_lt_of_cell? _ _ q)).trans q
    clear h
    go_wp2_with fail
    refine (Same_nn hS (.inl rfl)).mono ?_; rintro e w1 ⟨rfl, h⟩
    replace k := k.trans (h.mono k.size)
    clear h
    go_wp2_with fail
    go_ret
    exact ⟨rfl, k⟩
  | true =>
    go_enter Try.func18, Try.ntmps18
    obtain ⟨W0, hW0⟩ : ∃ W0, w.alloc (.cells #[.slice none 0 0, .slice none 0 0, .slice none 0 0, .slice none 0 0, .slice none 0 0, .slice none 0 0, .slice none 0 0, .slice none 0 0, .slice none 0 0, .slice none 0 0, .slice none 0 0, .slice none 0 0, .slice none 0 0, .slice none 0 0, .slice none 0 0, .slice none 0 0, .slice none 0 0, .slice none 0 0, .slice none 0 0, .slice none 0 0, .slice none 0 0, .slice none 0 0, .slice none 0 0, .slice none 0 0, .slice none 0 0, .slice none 0 0, .slice none 0 0, .slice none 0 0, .slice none 0 0, .slice none 0 0, .slice none 0 0, .slice none 0 0, .bool false] 63) = W0 := ⟨_, rfl⟩
    have hS : NoSh W0 (some ⟨w.heap.size, 0, none⟩) := by rw [← hW0]; exact .inr ⟨_, rfl, (Blk.new w _ _).cell 32 rfl⟩
    have k : Below w.heap.size w W0 := by rw [← hW0]; exact (Below.refl _ w).alloc (Nat.le_refl _) _
    go_wp2_with fail
    refine (Take_none hS 0 0).mono ?_; rintro e w1 ⟨rfl, h⟩
    replace k := k.trans (h.mono k.size)
    replace hS := hS.step h
    clear h
    go_wp2_with fail
    refine (Spill_none hS 0 0).mono ?_; rintro e w1 ⟨rfl, h⟩
    replace k := k.trans (h.mono k.size)
    replace hS := hS.step h
    clear h
    go_wp2_with fail
    refine (Drop_none hS 0 0).mono ?_; rintro e w1 ⟨rfl, h⟩
    replace k := k.trans (h.mono k.size)
    replace hS := hS.step h
    clear h
    go_wp2_with fail
    refine (Clear_none hS 0).mono ?_; rintro e w1 ⟨rfl, h⟩
    replace k := k.trans (h.mono k.size)
    replace hS := hS.step h
    clear h
    go_wp2_with fail
    refine (Has_none hS 0 0).mono ?_; rintro e w1 ⟨rfl, h⟩
    replace k := k.trans (h.mono k.size)
    replace hS := hS.step h
    clear h
    go_wp2_with fail
    refine (all_none hS).mono ?_; rintro e w1 ⟨b, off, cap, rfl, q, h⟩
    replace k := k.trans (h.mono k.size)
    replace hS := hS.step h
    clear h
    go_wp2_with fail
    refine (num_calls _ _).mono ?_; rintro e _ ⟨rfl, rfl⟩
    go_wp2_with fail
    refine (num_calls _ _).mono ?_; rintro e _ ⟨rfl, rfl⟩
    go_wp2_with fail
    refine (num_calls _ _).mono ?_; rintro e _ ⟨rfl, rfl⟩
    go_wp2_with fail
    refine (num_calls _ _).mono ?_; rintro e _ ⟨rfl, rfl⟩
    go_wp2_with fail
    refine (Put_none hS 0 0 0).mono ?_; rintro e w1 ⟨rfl, h⟩
    replace k := k.trans (h.mono k.size)
    replace hS := hS.step h
    replace q := (h.cell (p := ⟨b, off, none⟩) (World.block_lt_of_cell? _ _ q)).trans q
    clear h
    go_wp2_with fail
    refine (num_calls _ _).mono ?_; rintro e _ ⟨rfl, rfl⟩
    go_wp2_with fail
    refine (Len_none hS 0 0).mono ?_; rintro e w1 ⟨rfl, h⟩
    replace k := k.trans (h.mono k.size)
    replace hS := hS.step h
    replace q := (h.cell (p := ⟨b, off, none⟩) (World.block_lt_of_cell? _ _ q)).trans q
    clear h
    go_wp2_with fail
    refine (On_none hS 0 0).mono ?_; rintro e w1 ⟨rfl, h⟩
    replace k := k.trans (h.mono k.size)
    replace hS := hS.step h
    replace q := (h.cell (p := ⟨b, off, none⟩) (World.block_lt_of_cell? _ _ q)).trans q
    clear h
    go_wp2_with fail
    refine (Copy_none hS).mono ?_; rintro e w1 ⟨rfl, h⟩
    replace k := k.trans (h.mono k.size)
    replace hS := hS.step h
    replace q := (h.cell (p := ⟨b, off, none⟩) (World.block_lt_of_cell? _ _ q)).trans q
    clear h
    go_wp2_with fail
    refine (Same_nn hS (.inl rfl)).mono ?_; rintro e w1 ⟨rfl, h⟩
    replace k := k.trans (h.mono k.size)
    clear h
    go_wp2_with fail
    go_ret
    exact ⟨rfl, k⟩
end Go.Proofs.Ytkilmppmghkigaa
