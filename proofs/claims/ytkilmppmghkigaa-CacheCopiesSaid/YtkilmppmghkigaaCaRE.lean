/-
  Packages pinfoldref18 and cache: Clear. Conditions: shelves of fewer than a million.
-/
import Derived.Test.YtkilmppmghkigaaCaRD
namespace Go.Proofs.Ytkilmppmghkigaa
open Go.RowKit
attribute [local go_sem] Oper.semAt_some
set_option maxHeartbeats 4000000
set_option maxRecDepth 8000

def clrTo (L : Nat → List Int) (t k : Nat) : Nat → List Int := fun i => if t * 8 ≤ i ∧ i < t * 8 + k then [] else L i
theorem clrTo_zero (L : Nat → List Int) (t : Nat) : clrTo L t 0 = L := by
  funext i; unfold clrTo; rw [if_neg (by omega)]
theorem clrTo_succ (L : Nat → List Int) (t k : Nat) : upd (clrTo L t k) (t * 8 + k) [] = clrTo L t (k + 1) := by
  funext i
  unfold upd clrTo
  by_cases e : i = t * 8 + k
  · rw [if_pos e, if_pos (by omega)]
  · rw [if_neg e]
    by_cases h : t * 8 ≤ i ∧ i < t * 8 + k
    · rw [if_pos h, if_pos (by omega)]
    · rw [if_neg h, if_neg (by omega)]
theorem clrTo_at (L : Nat → List Int) (t k : Nat) : clrTo L t k (t * 8 + k) = L (t * 8 + k) := by unfold clrTo; rw [if_neg (by omega)]
theorem clrTo_few {L : Nat → List Int} (hL : ∀ i, (L i).length < 1000000) (t k i : Nat) : (clrTo L t k i).length < 1000000 := by
  unfold clrTo; split
  · simp
  · exact hL i
def clrSum (L : Nat → List Int) (t k : Nat) : Nat := ((List.range k).map fun c => (L (t * 8 + c)).length).sum
theorem clrSum_succ (L : Nat → List Int) (t k : Nat) : clrSum L t (k + 1) = clrSum L t k + (L (t * 8 + k)).length := by simp [clrSum, List.range_succ]
theorem clrSum_le {L : Nat → List Int} (hL : ∀ i, (L i).length < 1000000) (t k : Nat) : clrSum L t k ≤ k * 1000000 := by
  induction k with
  | zero => simp [clrSum]
  | succ k ih => rw [clrSum_succ]; have := hL (t * 8 + k); omega
def clrErr (t : Int) : Int := if badIn t 4 = true then 2 else 0
def clrVal (L : Nat → List Int) (t : Int) : Int := if badIn t 4 = true then 0 else clrSum L t.toNat 8
def clrAfter (L : Nat → List Int) (t : Int) : Nat → List Int := if badIn t 4 = true then L else clrTo L t.toNat 8
theorem rClear_ok {B : Nat} {w : World} {cs : Array Value} {R : Nat → List Int} (hV : RefV B w cs R) (hB : B ≤ w.heap.size) (hR : ∀ i, (R i).length < 1000000) (t : Int) :
    Calls Try.prog 40 #[.agg cs, .int .i64 t] w fun e w' => ∃ cs', e = .returned (.tuple #[.agg cs', .int .i64 (clrVal R t), .int .i64 (clrErr t)]) ∧ RefV w'.heap.size w' cs' (clrAfter R t) ∧ Below w.heap.size w w' := by
  obtain ⟨w0, hw0⟩ : ∃ w0, (w.alloc (.cells cs 44)).alloc (.cells #[.slice none 0 0, .slice none 0 0, .slice none 0 0, .slice none 0 0, .slice none 0 0, .slice none 0 0, .slice none 0 0, .slice none 0 0, .slice none 0 0, .slice none 0 0, .slice none 0 0, .slice none 0 0, .slice none 0 0, .slice none 0 0, .slice none 0 0, .slice none 0 0, .slice none 0 0, .slice none 0 0, .slice none 0 0, .slice none 0 0, .slice none 0 0, .slice none 0 0, .slice none 0 0, .slice none 0 0, .slice none 0 0, .slice none 0 0, .slice none 0 0, .slice none 0 0, .slice none 0 0, .slice none 0 0, .slice none 0 0, .slice none 0 0] 44) = w0 := ⟨_, rfl⟩
  have hb0 : Below w.heap.size w w0 := by rw [← hw0]; exact ((Below.refl _ w).alloc (Nat.le_refl _) _).alloc (by simp) _
  have hA : Blk w0 w.heap.size cs 44 := by rw [← hw0]; exact (Blk.new w _ _).alloc _
  have hO : Blk w0 (w.heap.size + 1) #[.slice none 0 0, .slice none 0 0, .slice none 0 0, .slice none 0 0, .slice none 0 0, .slice none 0 0, .slice none 0 0, .slice none 0 0, .slice none 0 0, .slice none 0 0, .slice none 0 0, .slice none 0 0, .slice none 0 0, .slice none 0 0, .slice none 0 0, .slice none 0 0, .slice none 0 0, .slice none 0 0, .slice none 0 0, .slice none 0 0, .slice none 0 0, .slice none 0 0, .slice none 0 0, .slice none 0 0, .slice none 0 0, .slice none 0 0, .slice none 0 0, .slice none 0 0, .slice none 0 0, .slice none 0 0, .slice none 0 0, .slice none 0 0] 44 := by rw [← hw0]; exact Blk.newAt _ _ _ (by simp)
  have hV0 := hV.below hb0 hB
  go_enter Try.func40, Try.ntmps40
  go_wp2_with fail
  clear hw0
  refine (Thread_calls t _).mono ?_; rintro e _ ⟨rfl, rfl⟩
  by_cases h1 : badIn t 4 = true
  · have hE : clrErr t = 2 := by unfold clrErr; rw [if_pos h1]
    have hVl : clrVal R t = 0 := by unfold clrVal; rw [if_pos h1]
    have hF : clrAfter R t = R := by unfold clrAfter; rw [if_pos h1]
    have HE := Lib.hid hE
    have HV := Lib.hid hVl
    have HF := Lib.hid hF
    clear hE hVl hF
    rw [h1]
    go_wp2_with (first | refine wpList_load32 rfl _ rfl w.heap.size rfl hA hV.size ?_ | refine wpList_store32 rfl _ _ rfl (w.heap.size + 1) cs rfl rfl hO rfl hV.size hV.one ?_)
    refine ret_c3 rfl (w.heap.size + 1) rfl (hO.setRow cs) hV.size rfl ?_
    exact ⟨cs, by rw [HV.out, HE.out]; rfl, by rw [HF.out]; exact (hV0.below (bel_setRow (Below.refl w.heap.size _) (by omega) cs) hB).mono (by have := hb0.size; rw [setRow_size]; omega), bel_setRow hb0 (by omega) cs⟩
  · rw [Bool.not_eq_true] at h1
    obtain ⟨t0, t1⟩ := badIn_false h1
    obtain ⟨a, rfl⟩ : ∃ n : Nat, t = n := ⟨t.toNat, by omega⟩
    have hE : clrErr a = 0 := by unfold clrErr; rw [h1]; rfl
    have hVl : clrVal R a = (clrSum R a 8 : Nat) := by unfold clrVal; rw [h1, if_neg (by simp), Int.toNat_natCast]
    have hF : clrAfter R a = clrTo R a 8 := by unfold clrAfter; rw [h1, if_neg (by simp), Int.toNat_natCast]
    have HE := Lib.hid hE
    have HV := Lib.hid hVl
    have HF := Lib.hid hF
    clear hE hVl hF
    rw [h1]
    go_wp2_with fail
    go_loopw [7, 8] (fun v i wr => ∃ k : Nat, k ≤ 8 ∧ i = .int .i64 k ∧ v = .int .i64 (clrSum R a k) ∧ Below w.heap.size w wr ∧ Blk wr (w.heap.size + 1) #[.slice none 0 0, .slice none 0 0, .slice none 0 0, .slice none 0 0, .slice none 0 0, .slice none 0 0, .slice none 0 0, .slice none 0 0, .slice none 0 0, .slice none 0 0, .slice none 0 0, .slice none 0 0, .slice none 0 0, .slice none 0 0, .slice none 0 0, .slice none 0 0, .slice none 0 0, .slice none 0 0, .slice none 0 0, .slice none 0 0, .slice none 0 0, .slice none 0 0, .slice none 0 0, .slice none 0 0, .slice none 0 0, .slice none 0 0, .slice none 0 0, .slice none 0 0, .slice none 0 0, .slice none 0 0, .slice none 0 0, .slice none 0 0] 44 ∧ ∃ cs', Blk wr w.heap.size cs' 44 ∧ RefV B wr cs' (clrTo R a k)) (fun _ i _ => 8 - (intOf i).toNat)
    case atStart => exact ⟨0, by omega, rfl, rfl, hb0, hO, cs, hA, by rw [clrTo_zero]; exact hV0⟩
    case round =>
      obtain ⟨k, hk, rfl, rfl, kr, hOr, cs', hAr, hVr⟩ := hrel
      clear hb0 hO hA hV0
      by_cases hlt : k < 8
      · obtain ⟨la, lc, hg, hr, _⟩ := hVr.row (a * 8 + k) (by omega)
        have q := hAr.cell (a * 8 + k) hg
        have qf := hAr.frozen (a * 8 + k)
        have hsum := clrSum_succ R a k
        have hle := clrSum_le hR a k
        have hll := hR (a * 8 + k)
        rw [clrTo_at] at q
        have hA2 := hAr.set (a * 8 + k) (.slice none 0 0)
        have hO2 := hOr.setOther ⟨w.heap.size, a * 8 + k, none⟩ (.slice none 0 0) (by show w.heap.size + 1 ≠ w.heap.size; omega)
        have k2 := kr.setCell (p := ⟨w.heap.size, a * 8 + k, none⟩) (Nat.le_refl _) (.slice none 0 0)
        have hV2 := (hVr.below ((Below.refl w.heap.size wr).setCell (p := ⟨w.heap.size, a * 8 + k, none⟩) (Nat.le_refl _) (.slice none 0 0)) hB).set (a * 8 + k) (by omega) (a := none) (n := 0) (c := 0) [] rfl (RowAt.nil _ _) plain_none
        rw [clrTo_succ] at hV2
        generalize (R (a * 8 + k)).length = ln at q hsum hll
        generalize clrSum R a k = sm at hsum hle
        have i0 : (0 : Int) ≤ k := by omega
        have i1 : (k : Int) < 8 := by omega
        have HS := Lib.hid hsum
        clear hg hr hAr hOr kr hVr hsum
        go_wp2_with fail
        exact ⟨⟨k + 1, by omega, by go_num, by rw [HS.out]; go_num, k2, hO2, _, hA2, hV2⟩, by simp [intOf]; omega⟩
      · obtain rfl : k = 8 := by omega
        go_wp2_with (first | refine wpList_load32 rfl _ rfl w.heap.size rfl hAr hVr.size ?_ | refine wpList_store32 rfl _ _ rfl (w.heap.size + 1) cs' rfl rfl hOr rfl hVr.size hVr.one ?_)
        refine ret_c3 rfl (w.heap.size + 1) rfl (hOr.setRow cs') hVr.size rfl ?_
        exact ⟨cs', by rw [HV.out, HE.out]; rfl, by rw [HF.out]; exact (hVr.below (bel_setRow (Below.refl w.heap.size _) (by omega) cs') hB).mono (by have := kr.size; rw [setRow_size]; omega), bel_setRow kr (by omega) cs'⟩
end Go.Proofs.Ytkilmppmghkigaa
