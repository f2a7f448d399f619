/-
  Package window: slots, bases, bounds.
-/
import Derived.Test.YtlpchcdalfkfcaaGreatRows
import Derived.Test.YtlpchcdalfkfcaaGreatCore
namespace Go.Proofs.YtlpchcdalfkfcaaGreat
open Go.RowKit
set_option maxHeartbeats 400000

def slotI (s : Int) : Bool := decide (0 ≤ s ∧ s < 4)
def inI (b n : Int) : Bool := decide (0 ≤ n ∧ n < b)
theorem is_callsW (s : Int) (w : World) : Calls Tryz.prog 66 #[.int .i64 s] w fun e w' => e = .returned (.bool (slotI s)) ∧ w = w' := by
  by_cases h : 0 ≤ s
  · have hd : decide (0 ≤ s) = true := by simpa using h
    go_enter Tryz.func66, Tryz.ntmps66
    go_wp2_with fail
    go_ret
    exact ⟨by simp [slotI, h], rfl⟩
  · have hd : decide (0 ≤ s) = false := by simpa using h
    have hr : slotI s = false := by simp [slotI]; omega
    rw [hr]
    go_enter Tryz.func66, Tryz.ntmps66
    go_wp2_with fail
    go_ret
    exact ⟨rfl, rfl⟩
theorem base_calls (s : Int) (h : slotI s = true) (w : World) : Calls Tryz.prog 77 #[.agg #[.int .i64 s]] w fun e w' => e = .returned (.int .i64 (4096 * (s + 1))) ∧ Below w.heap.size w w' := by
  have hs : 0 ≤ s ∧ s < 4 := by simpa [slotI] using h
  obtain ⟨h0, h1⟩ := hs
  go_enter Tryz.func77, Tryz.ntmps77
  go_wp2_with fail
  go_ret
  exact ⟨rfl, (Below.refl _ w).alloc (Nat.le_refl _) _⟩
theorem book_calls (s : Int) (h : slotI s = true) (w : World) : Calls Tryz.prog 137 #[.agg #[.int .i64 s]] w fun e w' => e = .returned (.int .i64 (64 * s + 1)) ∧ Below w.heap.size w w' := by
  have hs : 0 ≤ s ∧ s < 4 := by simpa [slotI] using h
  obtain ⟨h0, h1⟩ := hs
  go_enter Tryz.func137, Tryz.ntmps137
  go_wp2_with fail
  go_ret
  exact ⟨rfl, (Below.refl _ w).alloc (Nat.le_refl _) _⟩
theorem region_calls (s c : Int) (h : slotI s = true) (hc : inI 8 c = true) (w : World) : Calls Tryz.prog 68 #[.agg #[.int .i64 s], .int .i64 c] w fun e w' => e = .returned (.int .i64 (4096 * (s + 1) + 1 + 17 * c)) ∧ Below w.heap.size w w' := by
  have hs : 0 ≤ s ∧ s < 4 := by simpa [slotI] using h
  have hc' : 0 ≤ c ∧ c < 8 := by simpa [inI] using hc
  obtain ⟨h0, h1⟩ := hs
  obtain ⟨h2, h3⟩ := hc'
  go_enter Tryz.func68, Tryz.ntmps68
  go_wp2_with fail
  refine (base_calls s h _).mono ?_; rintro e w1 ⟨rfl, hb⟩
  go_wp2_with fail
  go_ret
  exact ⟨rfl, ((Below.refl _ w).alloc (Nat.le_refl _) _).trans (hb.mono (by simp))⟩
/-- fits's closure. -/
theorem fits1_calls (b n : Int) (bs : Nat) (w : World) (hbox : w.cell? ⟨bs, 0, none⟩ = some (.int .i64 b)) :
    Calls Tryz.prog 132 #[.int .i64 n, .pointer (some ⟨bs, 0, none⟩)] w fun e w' => e = .returned (.bool (!inI b n)) ∧ w = w' := by
  by_cases h : n < 0
  · have hr : inI b n = false := by simp [inI]; omega
    rw [hr]
    have hr : decide (n < 0) = true := by simpa using h
    go_enter Tryz.func132, Tryz.ntmps132
    go_wp2_with fail
    go_ret
    exact ⟨rfl, rfl⟩
  · by_cases h2 : b ≤ n
    · have hr : inI b n = false := by simp [inI]; omega
      rw [hr]
      have hr : decide (n < 0) = false := by simpa using h
      have hr2 : decide (b ≤ n) = true := by simpa using h2
      go_enter Tryz.func132, Tryz.ntmps132
      go_wp2_with fail
      go_ret
      exact ⟨rfl, rfl⟩
    · have hr : inI b n = true := by simp [inI]; omega
      rw [hr]
      have hr : decide (n < 0) = false := by simpa using h
      have hr2 : decide (b ≤ n) = false := by simpa using h2
      go_enter Tryz.func132, Tryz.ntmps132
      go_wp2_with fail
      go_ret
      exact ⟨rfl, rfl⟩
theorem Slot_calls (s : Int) (w : World) : Calls Tryz.prog 30 #[.int .i64 s] w fun e w' => e = .returned (.bool (slotI s)) ∧ w = w' := by
  by_cases h : 0 ≤ s
  · have hd : decide (0 ≤ s) = true := by simpa using h
    go_enter Tryz.func30, Tryz.ntmps30
    go_wp2_with fail
    go_ret
    exact ⟨by simp [slotI, h], rfl⟩
  · have hd : decide (0 ≤ s) = false := by simpa using h
    have hr : slotI s = false := by simp [slotI]; omega
    rw [hr]
    go_enter Tryz.func30, Tryz.ntmps30
    go_wp2_with fail
    go_ret
    exact ⟨rfl, rfl⟩
theorem Class_calls (s : Int) (w : World) : Calls Tryz.prog 31 #[.int .i64 s] w fun e w' => e = .returned (.bool (inI 8 s)) ∧ w = w' := by
  by_cases h : 0 ≤ s
  · have hd : decide (0 ≤ s) = true := by simpa using h
    go_enter Tryz.func31, Tryz.ntmps31
    go_wp2_with fail
    go_ret
    exact ⟨by simp [inI, h], rfl⟩
  · have hd : decide (0 ≤ s) = false := by simpa using h
    have hr : inI 8 s = false := by simp [inI]; omega
    rw [hr]
    go_enter Tryz.func31, Tryz.ntmps31
    go_wp2_with fail
    go_ret
    exact ⟨rfl, rfl⟩
theorem rBase_calls (s : Int) (h : slotI s = true) (w : World) : Calls Tryz.prog 71 #[.int .i64 s] w fun e w' => e = .returned (.int .i64 (4096 * (s + 1))) ∧ w = w' := by
  have hs : 0 ≤ s ∧ s < 4 := by simpa [slotI] using h
  obtain ⟨h0, h1⟩ := hs
  go_enter Tryz.func71, Tryz.ntmps71
  go_wp2_with fail
  go_ret
  exact ⟨rfl, rfl⟩
theorem rBook_calls (s : Int) (h : slotI s = true) (w : World) : Calls Tryz.prog 16 #[.int .i64 s] w fun e w' => e = .returned (.int .i64 (64 * s + 1)) ∧ w = w' := by
  have hs : 0 ≤ s ∧ s < 4 := by simpa [slotI] using h
  obtain ⟨h0, h1⟩ := hs
  go_enter Tryz.func16, Tryz.ntmps16
  go_wp2_with fail
  go_ret
  exact ⟨rfl, rfl⟩
theorem rRegion_calls (s c : Int) (h : slotI s = true) (hc : inI 8 c = true) (w : World) : Calls Tryz.prog 33 #[.int .i64 s, .int .i64 c] w fun e w' => e = .returned (.int .i64 (4096 * (s + 1) + 1 + 17 * c)) ∧ w = w' := by
  have hs : 0 ≤ s ∧ s < 4 := by simpa [slotI] using h
  have hc' : 0 ≤ c ∧ c < 8 := by simpa [inI] using hc
  obtain ⟨h0, h1⟩ := hs
  obtain ⟨h2, h3⟩ := hc'
  go_enter Tryz.func33, Tryz.ntmps33
  go_wp2_with fail
  refine (rBase_calls s h _).mono ?_; rintro e w1 ⟨rfl, rfl⟩
  go_wp2_with fail
  go_ret
  exact ⟨rfl, rfl⟩
/-- One number, against a bound. -/
theorem index1 (b n : Int) (lb bs : Nat) (w : World) (hbox : w.cell? ⟨bs, 0, none⟩ = some (.int .i64 b)) (hc : w.cell? ⟨lb, 0, none⟩ = some (.int .i64 n)) :
    Calls Tryz.prog 83 #[.slice (some ⟨lb, 0, none⟩) 1 1, .func (.func 132) #[] #[.pointer (some ⟨bs, 0, none⟩)]] w fun e w' => e = .returned (.int .i64 (if inI b n = true then -1 else 0)) ∧ w = w' := by
  have eg := enters_of (P := Tryz.prog) Tryz.func132 (by kernel_rfl) rfl
  go_enter Tryz.func83, Tryz.ntmps83
  go_wp2_with fail
  go_loopw [8] (fun i wr => (i = .int .i64 0 ∨ (i = .int .i64 1 ∧ inI b n = true)) ∧ w = wr) (fun i _ => 1 - (intOf i).toNat)
  case atStart => exact ⟨.inl rfl, rfl⟩
  case round =>
    obtain ⟨(rfl | ⟨rfl, hh⟩), rfl⟩ := hrel
    · by_cases h : inI b n = true
      · go_wp2_with fail
        refine (fits1_calls b n bs _ hbox).mono ?_; rintro e w' ⟨rfl, rfl⟩
        rw [show (!inI b n) = false by rw [h]; rfl]
        go_wp2_with fail
        go_roundw
        case rel => exact ⟨.inr ⟨rfl, h⟩, trivial⟩
        case measure => simp [intOf]
      · have h' : inI b n = false := by simpa using h
        clear h
        go_wp2_with fail
        refine (fits1_calls b n bs _ hbox).mono ?_; rintro e w' ⟨rfl, rfl⟩
        rw [show (!inI b n) = true by rw [h']; rfl]
        go_wp2_with fail
        all_goals (go_ret; exact ⟨rfl, rfl⟩)
    · go_wp2_with fail
      go_ret
      exact ⟨rfl, rfl⟩
theorem fits_ok (b n : Int) (lb : Nat) (w : World) (hc : w.cell? ⟨lb, 0, none⟩ = some (.int .i64 n)) :
    Calls Tryz.prog 67 #[.int .i64 b, .slice (some ⟨lb, 0, none⟩) 1 1] w fun e w' => e = .returned (.bool (inI b n)) ∧ Below w.heap.size w w' := by
  have hl : lb < w.heap.size := World.block_lt_of_cell? w _ hc
  have hc1 : (w.alloc (.cells #[.int .i64 b] 3)).cell? ⟨lb, 0, none⟩ = some (.int .i64 n) := ((Below.refl _ w).alloc (Nat.le_refl _) _ |>.cell (p := ⟨lb, 0, none⟩) hl).trans hc
  go_enter Tryz.func67, Tryz.ntmps67
  go_wp2_with fail
  go_enter Tryz.func41, Tryz.ntmps41
  go_wp2_with fail
  refine (index1 b n lb w.heap.size _ ((Blk.new w _ _).cell 0 rfl) hc1).mono ?_; rintro e w' ⟨rfl, rfl⟩
  by_cases h : inI b n = true
  · rw [h, if_pos rfl]
    go_wp2_with fail
    go_ret
    exact ⟨by rw [h]; rfl, (Below.refl _ w).alloc (Nat.le_refl _) _⟩
  · have h' : inI b n = false := by simpa using h
    rw [h', if_neg (by decide)]
    go_wp2_with fail
    go_ret
    exact ⟨by rw [h']; rfl, (Below.refl _ w).alloc (Nat.le_refl _) _⟩
theorem Book_ok (s : Int) (h : slotI s = true) (w : World) : Calls Tryz.prog 149 #[.int .i64 s] w fun e w' => e = .returned (.tuple #[.int .i64 (64 * s + 1), .int .i64 0]) ∧ Below w.heap.size w w' := by
  go_enter Tryz.func149, Tryz.ntmps149
  go_wp2_with fail
  refine (is_callsW s _).mono ?_; rintro e w1 ⟨rfl, rfl⟩
  rw [h]
  go_wp2_with fail
  refine (book_calls s h _).mono ?_; rintro e w1 ⟨rfl, hb⟩
  go_wp2_with fail
  go_ret2
  exact ⟨rfl, hb⟩
theorem Book_arg (s : Int) (h : slotI s = false) (w : World) : Calls Tryz.prog 149 #[.int .i64 s] w fun e w' => e = .returned (.tuple #[.int .i64 0, .int .i64 2]) ∧ Below w.heap.size w w' := by
  go_enter Tryz.func149, Tryz.ntmps149
  go_wp2_with fail
  refine (is_callsW s _).mono ?_; rintro e w1 ⟨rfl, rfl⟩
  rw [h]
  go_wp2_with fail
  go_ret2
  exact ⟨rfl, Below.refl _ _⟩
theorem lit1 (w : World) (n : Int) (t : TypeId) : (w.alloc (.cells #[.int .i64 n] t)).cell? ⟨w.heap.size, 0, none⟩ = some (.int .i64 n) := (Blk.new w #[.int .i64 n] t).cell 0 rfl
theorem Region_ok (s c : Int) (h : slotI s = true) (hc : inI 8 c = true) (w : World) : Calls Tryz.prog 28 #[.int .i64 s, .int .i64 c] w fun e w' => e = .returned (.tuple #[.int .i64 (4096 * (s + 1) + 1 + 17 * c), .int .i64 0]) ∧ Below w.heap.size w w' := by
  go_enter Tryz.func28, Tryz.ntmps28
  go_wp2_with fail
  refine wp_scope_fwd 0 rfl ?_
  go_wp2_with (first | go_step3 | rw [fwd_goto] | rw [fwd_ret] | rw [Exit.noGoto_ret])
  refine (is_callsW s _).mono ?_; rintro e w1 ⟨rfl, rfl⟩
  rw [h]
  go_wp2_with (first | go_step3 | rw [fwd_goto] | rw [fwd_ret] | rw [Exit.noGoto_ret])
  refine (fits_ok 8 c _ _ (lit1 _ _ _)).mono ?_; rintro e w1 ⟨rfl, hb1⟩
  rw [hc]
  have hz1 := hb1.size
  simp at hz1
  go_wp2_with (first | go_step3 | rw [fwd_goto] | rw [fwd_ret] | rw [Exit.noGoto_ret])
  refine (region_calls s c h hc _).mono ?_; rintro e w2 ⟨rfl, hb2⟩
  go_wp2_with (first | go_step3 | rw [fwd_goto] | rw [fwd_ret] | rw [Exit.noGoto_ret])
  go_ret2
  exact ⟨rfl, (((Below.refl _ w).alloc (Nat.le_refl _) _).trans (hb1.mono (by simp))).trans (hb2.mono (by omega))⟩
theorem Region_arg (s c : Int) (h : slotI s = false ∨ inI 8 c = false) (w : World) : Calls Tryz.prog 28 #[.int .i64 s, .int .i64 c] w fun e w' => e = .returned (.tuple #[.int .i64 0, .int .i64 2]) ∧ Below w.heap.size w w' := by
  by_cases hs : slotI s = true
  · have hc : inI 8 c = false := by rcases h with h | h; rw [hs] at h; cases h; exact h
    clear h
    go_enter Tryz.func28, Tryz.ntmps28
    go_wp2_with fail
    refine wp_scope_fwd 0 rfl ?_
    go_wp2_with (first | go_step3 | rw [fwd_goto] | rw [fwd_ret] | rw [Exit.noGoto_ret])
    refine (is_callsW s _).mono ?_; rintro e w1 ⟨rfl, rfl⟩
    rw [hs]
    go_wp2_with (first | go_step3 | rw [fwd_goto] | rw [fwd_ret] | rw [Exit.noGoto_ret])
    refine (fits_ok 8 c _ _ (lit1 _ _ _)).mono ?_; rintro e w1 ⟨rfl, hb1⟩
    rw [hc]
    go_wp2_with (first | go_step3 | rw [fwd_goto] | rw [fwd_ret] | rw [Exit.noGoto_ret])
    go_ret2
    exact ⟨rfl, ((Below.refl _ w).alloc (Nat.le_refl _) _).trans (hb1.mono (by simp))⟩
  · have hs' : slotI s = false := by simpa using hs
    clear hs h
    go_enter Tryz.func28, Tryz.ntmps28
    go_wp2_with fail
    refine wp_scope_fwd 0 rfl ?_
    go_wp2_with (first | go_step3 | rw [fwd_goto] | rw [fwd_ret] | rw [Exit.noGoto_ret])
    refine (is_callsW s _).mono ?_; rintro e w1 ⟨rfl, rfl⟩
    rw [hs']
    go_wp2_with (first | go_step3 | rw [fwd_goto] | rw [fwd_ret] | rw [Exit.noGoto_ret])
    go_ret2
    exact ⟨rfl, Below.refl _ _⟩
theorem Split_ok (a : Int) (h0 : 0 ≤ a) (h1 : a < 16777216) (w : World) : Calls Tryz.prog 35 #[.int .u32 a] w fun e w' => e = .returned (.tuple #[.int .i64 (a / 256), .int .i64 (a % 256), .int .i64 0]) ∧ w = w' := by
  go_enter Tryz.func35, Tryz.ntmps35
  go_wp2_with fail
  exact bodyPost_ret (v := .tuple #[.int .i64 (a / 256), .int .i64 (a % 256), .int .i64 0]) (by simp [results, Tryz.results35, go_sem]) rfl ⟨rfl, rfl⟩
theorem Split_no (a : Int) (h0 : 16777216 ≤ a) (w : World) : Calls Tryz.prog 35 #[.int .u32 a] w fun e w' => e = .returned (.tuple #[.int .i64 0, .int .i64 0, .int .i64 4]) ∧ w = w' := by
  go_enter Tryz.func35, Tryz.ntmps35
  go_wp2_with fail
  exact bodyPost_ret (v := .tuple #[.int .i64 0, .int .i64 0, .int .i64 4]) (by simp [results, Tryz.results35, go_sem]) rfl ⟨rfl, rfl⟩
end Go.Proofs.YtlpchcdalfkfcaaGreat
