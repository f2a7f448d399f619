/-
  Package pinfoldlaw10: the chapter's rows.
-/
import Derived.Test.YtcgdipkmcgionaaWinG
namespace Go.Proofs.Ytcgdipkmcgionaa
open Go.RowKit
set_option maxHeartbeats 1000000
set_option maxRecDepth 8000

theorem works_ok (w : World) : Calls Try.prog 14 #[] w fun e w' => e = .returned (.bool true) ∧ Below w.heap.size w w' := by
  have e1 : ofV 4097 = siteV 2 0 0 0 := by rfl
  have e2 : ofV 4113 = siteV 4 0 0 17 := by rfl
  have e3 : ofV 4352 = siteV 3 0 0 256 := by rfl
  go_enter Try.func14, Try.ntmps14
  go_wp2_with fail
  refine (Base_ok 0 rfl _).mono ?_; rintro e w1 ⟨rfl, h1⟩
  go_wp2_with fail
  refine (Region_ok 3 7 rfl rfl _).mono ?_; rintro e w2 ⟨rfl, h2⟩
  have k2 := h1.trans (h2.mono h1.size)
  clear h1 h2
  go_wp2_with fail
  refine (Great_ok 1 rfl _).mono ?_; rintro e w3 ⟨rfl, h3⟩
  have k3 := k2.trans (h3.mono k2.size)
  clear k2 h3
  go_wp2_with fail
  refine (Book_ok 2 rfl _).mono ?_; rintro e w4 ⟨rfl, h4⟩
  have k4 := k3.trans (h4.mono k3.size)
  clear k3 h4
  go_wp2_with fail
  refine (Base_arg 4 rfl _).mono ?_; rintro e w5 ⟨rfl, h5⟩
  have k5 := k4.trans (h5.mono k4.size)
  clear k4 h5
  go_wp2_with fail
  refine (Of_ok 4097 rfl _).mono ?_; rintro e w6 ⟨rfl, h6⟩
  have k6 := (k5.trans (h6.mono k5.size)).alloc (k5.trans (h6.mono k5.size)).size (.cells #[.int .i64 2, .int .i64 0, .int .i64 0, .int .i64 0] 36)
  have b6 := Blk.new w6 #[.int .i64 2, .int .i64 0, .int .i64 0, .int .i64 0] 36
  have l6 := b6.lt
  clear k5 h6
  rw [e1]
  dsimp only [siteV]
  go_wp2_with fail
  refine (Of_ok 4113 rfl _).mono ?_; rintro e w7 ⟨rfl, h7⟩
  have k7 := (k6.trans (h7.mono k6.size)).alloc (k6.trans (h7.mono k6.size)).size (.cells #[.int .i64 4, .int .i64 0, .int .i64 0, .int .i64 17] 36)
  have b6' := (b6.below h7 l6).alloc (.cells #[.int .i64 4, .int .i64 0, .int .i64 0, .int .i64 17] 36)
  have b7 := Blk.new w7 #[.int .i64 4, .int .i64 0, .int .i64 0, .int .i64 17] 36
  clear k6 h7 b6 l6
  rw [e2]
  dsimp only [siteV]
  go_wp2_with fail
  refine (Of_ok 4352 rfl _).mono ?_; rintro e w8 ⟨rfl, h8⟩
  have k8 := (k7.trans (h8.mono k7.size)).alloc (k7.trans (h8.mono k7.size)).size (.cells #[.int .i64 3, .int .i64 0, .int .i64 0, .int .i64 256] 36)
  have b6 := (b6'.below h8 b6'.lt).alloc (.cells #[.int .i64 3, .int .i64 0, .int .i64 0, .int .i64 256] 36)
  have b7' := (b7.below h8 b7.lt).alloc (.cells #[.int .i64 3, .int .i64 0, .int .i64 0, .int .i64 256] 36)
  have b8 := Blk.new w8 #[.int .i64 3, .int .i64 0, .int .i64 0, .int .i64 256] 36
  clear k7 h8 b6' b7
  rw [e3]
  dsimp only [siteV]
  go_wp2_with fail
  refine (Of_no 65536 rfl _).mono ?_; rintro e w9 ⟨rfl, h9⟩
  have k9 := (k8.trans (h9.mono k8.size)).alloc (k8.trans (h9.mono k8.size)).size (.cells #[.int .i64 0, .int .i64 0, .int .i64 0, .int .i64 0] 36)
  have b6' := (b6.below h9 b6.lt).alloc (.cells #[.int .i64 0, .int .i64 0, .int .i64 0, .int .i64 0] 36)
  have b7 := (b7'.below h9 b7'.lt).alloc (.cells #[.int .i64 0, .int .i64 0, .int .i64 0, .int .i64 0] 36)
  have b8' := (b8.below h9 b8.lt).alloc (.cells #[.int .i64 0, .int .i64 0, .int .i64 0, .int .i64 0] 36)
  clear k8 h9 b6 b7' b8
  dsimp only [siteV]
  generalize w6.heap.size = a6 at *
  generalize w7.heap.size = a7 at *
  generalize w8.heap.size = a8 at *
  go_wp2_with fail
  refine (Address_ok 2 5 rfl rfl _).mono ?_; rintro e w10 ⟨rfl, h10⟩
  have k10 := k9.trans (h10.mono k9.size)
  have b6 := b6'.below h10 b6'.lt
  have b7' := b7.below h10 b7.lt
  have b8 := b8'.below h10 b8'.lt
  clear k9 h10 b6' b7 b8'
  go_wp2_with fail
  refine (Split_ok 517 (by decide) (by decide) _).mono ?_; rintro e w' ⟨rfl, rfl⟩
  go_wp2_with fail
  refine (Address_no 1 256 (.inr rfl) _).mono ?_; rintro e w11 ⟨rfl, h11⟩
  have k11 := k10.trans (h11.mono k10.size)
  have b6' := b6.below h11 b6.lt
  have b7 := b7'.below h11 b7'.lt
  have b8' := b8.below h11 b8.lt
  clear k10 h11 b6 b7' b8
  obtain ⟨x0, x1, x2, x3⟩ := cells4 b6'
  obtain ⟨y0, y1, y2, y3⟩ := cells4 b7
  obtain ⟨z0, z1, z2, z3⟩ := cells4 b8'
  clear b6' b7 b8' e1 e2 e3
  repeat (go_wp2_with fail; refine (num_calls _ _).mono ?_; rintro e w' ⟨rfl, rfl⟩)
  go_wp2_with fail
  go_ret
  exact ⟨rfl, k11⟩
end Go.Proofs.Ytcgdipkmcgionaa
