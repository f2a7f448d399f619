/-
  Package cache: Clear, Len, Copy, Same. Conditions: shelves of fewer than a million.
-/
import Derived.Test.YtkilmppmghkigaaCaRE
namespace Go.Proofs.Ytkilmppmghkigaa
open Go.RowKit
attribute [local go_sem] Oper.semAt_some
set_option maxHeartbeats 4000000
set_option maxRecDepth 8000

theorem shErr_at0 (t : Int) : shErr t 0 = clrErr t := by
  unfold shErr clrErr
  split
  · rfl
  · rw [if_neg (by simp [badIn])]
theorem Clear_ok {w : World} {s : Nat} {L : Nat → List Int} (hS : ShAt w s L) (hL : ∀ i, (L i).length < 1000000) (t : Int) : Calls Try.prog 41 #[.pointer (some ⟨s, 0, none⟩), .int .i64 t] w fun e w' =>
    e = .returned (.tuple #[.int .i64 (clrVal L t), .int .i64 (clrErr t)]) ∧ ShAt w' s (clrAfter L t) ∧ Chg s w w' := by
  by_cases h1 : badIn t 4 = true
  · have hE : clrErr t = 2 := by unfold clrErr; rw [if_pos h1]
    have hVl : clrVal L t = 0 := by unfold clrVal; rw [if_pos h1]
    have hF : clrAfter L t = L := by unfold clrAfter; rw [if_pos h1]
    rw [hVl, hE, hF]
    go_enter Try.func41, Try.ntmps41
    go_wp2_with fail
    refine (shelf_calls hS t 0).mono ?_; rintro e w1 ⟨rfl, k1⟩
    rw [shErr_at0, hE]
    go_wp2_with fail
    go_ret2
    exact ⟨rfl, hS.step k1, .of_below k1⟩
  · rw [Bool.not_eq_true] at h1
    obtain ⟨t0, t1⟩ := badIn_false h1
    obtain ⟨a, rfl⟩ : ∃ n : Nat, t = n := ⟨t.toNat, by omega⟩
    have hE : clrErr a = 0 := by unfold clrErr; rw [h1]; rfl
    have hVl : clrVal L a = (clrSum L a 8 : Nat) := by unfold clrVal; rw [h1, if_neg (by simp), Int.toNat_natCast]
    have hF : clrAfter L a = clrTo L a 8 := by unfold clrAfter; rw [h1, if_neg (by simp), Int.toNat_natCast]
    rw [hVl, hE, hF]
    have HE := Lib.hid hE
    clear hE hVl hF
    go_enter Try.func41, Try.ntmps41
    go_wp2_with fail
    refine (shelf_calls hS a 0).mono ?_; rintro e w1 ⟨rfl, k1⟩
    rw [shErr_at0, HE.out]
    have hS1 := hS.step k1
    go_wp2_with fail
    go_loopw [4, 13] (fun v i wr => ∃ k : Nat, k ≤ 8 ∧ i = .int .i64 k ∧ v = .int .i64 (clrSum L a k) ∧ ShAt wr s (clrTo L a k) ∧ Chg s w wr) (fun _ i _ => 8 - (intOf i).toNat)
    case atStart => exact ⟨0, by omega, rfl, rfl, by rw [clrTo_zero]; exact hS1, .of_below k1⟩
    case round =>
      obtain ⟨k, hk, rfl, rfl, hSr, hC⟩ := hrel
      clear hS1 hS k1
      by_cases hlt : k < 8
      · obtain ⟨v, q1, q2, hr⟩ := hSr.row (a * 8 + k) (by omega)
        rw [clrTo_at] at hr
        obtain ⟨sa, sc, rfl, _⟩ := hr.len
        have hsum := clrSum_succ L a k
        have hle := clrSum_le hL a k
        have hll := hL (a * 8 + k)
        have hS2 := hSr.set (a * 8 + k) (by omega) (v := .slice none 0 0) [] (RowAt.nil _ _)
        rw [clrTo_succ] at hS2
        have hC2 := hC.setc ⟨s, a * 8 + k, none⟩ (.slice none 0 0) rfl
        generalize (L (a * 8 + k)).length = ln at q1 hsum hll
        generalize clrSum L a k = sm at hsum hle
        have i0 : (0 : Int) ≤ k := by omega
        have i1 : (k : Int) < 8 := by omega
        have HS := Lib.hid hsum
        clear hr hsum hSr hC
        go_wp2_with fail
        refine (on_calls s a k (by omega) (by omega) wr).mono ?_; rintro e _ ⟨rfl, rfl⟩
        go_wp2_with fail
        refine (on_calls s a k (by omega) (by omega) _).mono ?_; rintro e _ ⟨rfl, rfl⟩
        go_wp2_with fail
        exact ⟨⟨k + 1, by omega, by go_num, by rw [HS.out]; go_num, hS2, hC2⟩, by simp [intOf]; omega⟩
      · obtain rfl : k = 8 := by omega
        go_wp2_with fail
        go_ret2
        exact ⟨rfl, hSr, hC⟩
theorem Len_ok {w : World} {s : Nat} {L : Nat → List Int} (hS : ShAt w s L) (hL : ∀ i, (L i).length < 1000000) (t c : Int) : Calls Try.prog 42 #[.pointer (some ⟨s, 0, none⟩), .int .i64 t, .int .i64 c] w fun e w' =>
    e = .returned (.int .i64 (onL L t c).length) ∧ Below w.heap.size w w' := by
  go_enter Try.func42, Try.ntmps42
  go_wp2_with fail
  refine (On_ok hS hL t c).mono ?_; rintro e w1 ⟨v, rfl, ho, k1⟩
  obtain ⟨sa, sc, rfl, _⟩ := (RowAt.of_owns ho (Nat.le_refl _)).len
  go_wp2_with fail
  go_ret
  exact ⟨rfl, k1⟩
end Go.Proofs.Ytkilmppmghkigaa
