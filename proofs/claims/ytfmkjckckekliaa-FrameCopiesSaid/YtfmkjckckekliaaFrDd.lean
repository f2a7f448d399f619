/-
  Package pinfoldref07: New, Take. Conditions: few frames.
-/
import Derived.Test.YtfmkjckckekliaaFrDc
namespace Go.Proofs.Ytfmkjckckekliaa
open Go.RowKit
attribute [local go_sem] Oper.semAt_some
set_option maxHeartbeats 1000000
set_option maxRecDepth 8000

/-! ### New -/
def newL (k : Nat) : List Df := List.replicate k (-1, [])
theorem newL_len (k : Nat) : (newL k).length = k := List.length_replicate
theorem newL_succ (k : Nat) : newL (k + 1) = newL k ++ [(-1, [])] := List.replicate_succ'
theorem frV_newS (k : Nat) : frV (newL (k + 1)) = frV (newL k) ++ [.int .i64 (-1), .string (strOfNums [])] := by rw [newL_succ, frV_append]; rfl
theorem rNew_no (many : Int) (h : many < 0 ∨ 16384 < many) (w : World) :
    Calls Try.prog 19 #[.int .i64 many] w fun e w' => e = .returned (.tuple #[.agg (poolV (.slice none 0 0) zeros64), .int .i64 2]) ∧ Below w.heap.size w w' := by
  obtain ⟨w0, hw0⟩ : ∃ w0, w.alloc (.cells Try.zeroCells54 54) = w0 := ⟨_, rfl⟩
  have k0 : Below w.heap.size w w0 := by rw [← hw0]; exact (Below.refl _ w).alloc (Nat.le_refl _) _
  have hO : Blk w0 w.heap.size (poolV (.slice none 0 0) zeros64) 54 := by rw [← hw0, ← zero_pool]; exact Blk.new _ _ _
  have HZP := Lib.hid zero_pool
  have hfin : ∀ w9, Hid (w0.setCells w.heap.size 0 (poolV (.slice none 0 0) zeros64).toList = w9) → Blk w9 w.heap.size (poolV (.slice none 0 0) zeros64) 54 ∧ Below w.heap.size w w9 := by
    intro w9 h
    have h1 := hO.whole (poolV (.slice none 0 0) zeros64) rfl
    have h2 := bel_setCells k0 (Nat.le_refl _) (poolV (.slice none 0 0) zeros64).toList 0
    rw [h.out] at h1 h2
    exact ⟨h1, h2⟩
  have HFIN := Lib.hid hfin
  clear hfin
  by_cases h0 : many < 0
  · go_enter Try.func19, Try.ntmps19
    go_wp2_with (refine wpList_storeBG ty65 rfl _ _ rfl w.heap.size (poolV (.slice none 0 0) zeros64) rfl (congrArg Value.agg HZP.out) hO (poolV_size _ rfl) (poolV_size _ rfl) (poolV_one rfl _) ?_)
    intro w9 hw9
    obtain ⟨h1, h2⟩ := HFIN.out w9 hw9
    clear hw9 HFIN hO hw0
    go_wp2_with fail
    exact ret_p2 rfl w.heap.size rfl h1 (poolV_size _ rfl) rfl ⟨rfl, h2⟩
  · have h1 : 16384 < many := by omega
    go_enter Try.func19, Try.ntmps19
    go_wp2_with (refine wpList_storeBG ty65 rfl _ _ rfl w.heap.size (poolV (.slice none 0 0) zeros64) rfl (congrArg Value.agg HZP.out) hO (poolV_size _ rfl) (poolV_size _ rfl) (poolV_one rfl _) ?_)
    intro w9 hw9
    obtain ⟨h1, h2⟩ := HFIN.out w9 hw9
    clear hw9 HFIN hO hw0
    go_wp2_with fail
    exact ret_p2 rfl w.heap.size rfl h1 (poolV_size _ rfl) rfl ⟨rfl, h2⟩
theorem rNew_ok (n : Nat) (hn : n ≤ 16384) (w : World) :
    Calls Try.prog 19 #[.int .i64 n] w fun e w' => ∃ v', e = .returned (.tuple #[.agg (poolV v' zeros64), .int .i64 0]) ∧ RowAt w'.heap.size w' v' (newL n).length (frV (newL n)) ∧ Below w.heap.size w w' := by
  obtain ⟨w0, hw0⟩ : ∃ w0, (w.alloc (.cells Try.zeroCells54 54)).alloc (.cells Try.zeroCells54 54) = w0 := ⟨_, rfl⟩
  have k0 : Below w.heap.size w w0 := by rw [← hw0]; exact ((Below.refl _ w).alloc (Nat.le_refl _) _).alloc (by simp) _
  have hO : Blk w0 w.heap.size (poolV (.slice none 0 0) zeros64) 54 := by rw [← hw0, ← zero_pool]; exact (Blk.new w _ _).alloc _
  have hP : Blk w0 (w.heap.size + 1) (poolV (.slice none 0 0) zeros64) 54 := by rw [← hw0, ← zero_pool]; exact Blk.newAt _ _ _ (by simp)
  have hz0 : w.heap.size + 1 + 1 ≤ w0.heap.size := by rw [← hw0]; simp
  have hown : w0.ownsRow (w.heap.size + 1 + 1) 93 2 (.slice none 0 0) 0 [] := World.ownsRow_nil _ _ _ _
  obtain ⟨s, hs⟩ : ∃ s, w.heap.size = s := ⟨_, rfl⟩
  have HS := Lib.hid hs
  rw [hs] at k0 hO hP hown hz0
  have HOW := Lib.hid hown
  clear hown
  go_enter Try.func19, Try.ntmps19
  go_wp2_with fail
  clear hw0 hs
  go_loopw [5] (fun i wr => ∃ (k : Nat) (v : Value), k ≤ n ∧ i = .int .i64 k ∧ Blk wr (s + 1) (poolV v zeros64) 54 ∧ wr.ownsRow (s + 1 + 1) 93 2 v k (frV (newL k)) ∧ Blk wr s (poolV (.slice none 0 0) zeros64) 54 ∧ Below s w wr ∧ s + 1 + 1 ≤ wr.heap.size) (fun i _ => n - (intOf i).toNat)
  case atStart => exact ⟨0, _, by omega, rfl, hP, HOW.out, hO, k0, hz0⟩
  case round =>
    obtain ⟨k, v, hk, rfl, hP1, ho1, hO1, k1, hz1⟩ := hrel
    clear hO hP HOW hz0 k0
    have cp : wr.cell? ⟨s + 1, 0, none⟩ = some v := hP1.cell 0 (poolV_zero _ _)
    by_cases hlt : k < n
    · have i1 : (k : Int) < n := by omega
      have ls := hP1.lt
      have hzl := frV_len (newL k)
      have ha := ho1.alloc (.cells #[.int .i64 (-1), .string (strOfNums [])] 93)
      have HA := Lib.hid ha
      clear ha hzl
      go_wp2_with (at_builtin; refine wpList_append_row rfl _ _ 51 rfl (s + 1 + 1) Try.underlying51 infoFr k (frV (newL k)) rfl HA.out (wr.heap.size + 1) 1 [.int .i64 (-1), .string (strOfNums [])] rfl ?c2 rfl ?c4 ?c5 ?c6 ?c7 ?_)
      case c2 => exact RowAt.lit wr #[.int .i64 (-1), .string (strOfNums [])] 93 1 _ (by omega)
      case c4 => intro u hu; simp at hu; rcases hu with rfl | rfl <;> rfl
      case c5 => unfold maxLen; omega
      case c6 => omega
      case c7 => simp; omega
      intro v2 w2 ho2 hg2
      have hz2 : s + 1 + 1 ≤ w2.heap.size := by have := hg2.size; simp at this; omega
      have k2 := (k1.alloc (by omega) (.cells #[.int .i64 (-1), .string (strOfNums [])] 93)).appended HA.out hg2 (by omega) (by simp; omega)
      have hP2 := (hP1.alloc (.cells #[.int .i64 (-1), .string (strOfNums [])] 93)).appended HA.out hg2 (by omega)
      have hO2 := (hO1.alloc (.cells #[.int .i64 (-1), .string (strOfNums [])] 93)).appended HA.out hg2 (by omega)
      rw [← frV_newS] at ho2
      obtain ⟨a2, c2, rfl, _⟩ := (RowAt.of_owns ho2 (Nat.le_refl _)).len
      obtain ⟨v2, hv2⟩ : ∃ v2, Value.slice a2 (k + 1) c2 = v2 := ⟨_, rfl⟩
      rw [hv2] at ho2
      have cp2 : w2.cell? ⟨s + 1, 0, none⟩ = some v := hP2.cell 0 (poolV_zero _ _)
      have fz2 := hP2.frozen 0
      have hP3 := hP2.set 0 v2
      rw [poolV_setL] at hP3
      have HP3 := Lib.hid hP3
      have HO3 := Lib.hid (hO2.setOther ⟨s + 1, 0, none⟩ v2 (show s ≠ s + 1 by omega))
      have HK3 := Lib.hid (k2.setCell (p := ⟨s + 1, 0, none⟩) (show s ≤ s + 1 by omega) v2)
      have HW3 := Lib.hid (ownsRow_setCell_below ho2 (a := ⟨s + 1, 0, none⟩) (by dsimp only; omega) v2)
      rw [← hv2] at HP3 HO3 HK3 HW3
      clear hg2 hP1 hO1 k1 ho1 hP2 hO2 hP3 ho2 k2 cp HA hv2
      go_wp2_with fail
      exact ⟨⟨k + 1, _, by omega, by go_num, HP3.out, HW3.out, HO3.out, HK3.out, by simpa using hz2⟩, by simp [intOf]; omega⟩
    · obtain rfl : k = n := by omega
      have hv1 := (RowAt.of_owns ho1 (Nat.le_refl _)).one
      have HV1 := Lib.hid hv1
      have HP1 := Lib.hid hP1
      have HO1 := Lib.hid hO1
      clear hv1 hP1 hO1
      go_wp2_with (first | refine wpList_loadB ty65 rfl _ rfl (s + 1) rfl HP1.out (poolV_size _ rfl) ?_ | refine wpList_storeBG ty65 rfl _ _ rfl s (poolV v zeros64) rfl rfl HO1.out (poolV_size _ rfl) (poolV_size _ rfl) (poolV_one HV1.out _) ?_)
      intro w9 hw9
      have h1 := HO1.out.whole (poolV v zeros64) ((poolV_size _ rfl).trans (poolV_size _ rfl).symm)
      have h2 := bel_setCells k1 (Nat.le_refl _) (poolV v zeros64).toList 0
      have h3 := owns_setCellsL ho1 (show s < s + 1 + 1 by omega) (poolV v zeros64).toList 0
      rw [hw9.out] at h1 h2 h3
      clear hw9 HP1 HO1 ho1 k1 cp
      go_wp2_with fail
      refine ret_p2 rfl s rfl h1 (poolV_size _ rfl) rfl ⟨v, rfl, ?_, by rw [HS.out]; exact h2⟩
      rw [newL_len]
      exact RowAt.of_owns h3 (Nat.le_refl _)
end Go.Proofs.Ytfmkjckckekliaa
