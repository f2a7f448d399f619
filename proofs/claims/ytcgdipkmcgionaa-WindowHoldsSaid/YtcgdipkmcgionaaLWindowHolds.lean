/-
  'WindowHolds' returns true for every input, and leaves what it is given as it was. No condition.
-/
import Derived.Test.YtcgdipkmcgionaaFrame
import Derived.Test.YtcgdipkmcgionaaWinW
import Derived.Test.YtcgdipkmcgionaaWinX
namespace Go.Proofs.Ytcgdipkmcgionaa.windowHolds
open Go.ChangeShapes Go.WideShapes Go.ChangeAt Go.RowKit Go.Proofs.Ytcgdipkmcgionaa
set_option linter.unusedVariables false
set_option maxHeartbeats 1000000

theorem no1 (a b : Int) (ha : inI 65536 a = false) (hb : inI 65536 b = false) (w : World) : Calls Try.prog 6 #[.int .i64 a, .int .i64 b] w fun e w' => e = .returned (.bool true) ∧ Below w.heap.size w w' := by
  have k := Below.refl w.heap.size w
  go_enter Try.func6, Try.ntmps6
  go_wp2_with fail
  refine (Of_no a ha _).mono ?_; rintro e w1 ⟨rfl, h⟩
  replace k := k.trans (h.mono k.size); clear h
  dsimp only [siteV]
  replace k := k.alloc k.size (.cells #[.int .i64 0, .int .i64 0, .int .i64 0, .int .i64 0] 36)
  go_wp2_with fail
  refine (Of_no b hb _).mono ?_; rintro e w2 ⟨rfl, h⟩
  dsimp only [siteV]
  replace k := (k.trans (h.mono k.size)).alloc (k.trans (h.mono k.size)).size (.cells #[.int .i64 0, .int .i64 0, .int .i64 0, .int .i64 0] 36)
  go_wp2_with fail
  refine (num_calls _ _).mono ?_; rintro e w1 ⟨rfl, rfl⟩
  go_wp2_with fail
  refine (num_calls _ _).mono ?_; rintro e w1 ⟨rfl, rfl⟩
  go_wp2_with fail
  refine (works_ok _).mono ?_; rintro e w1 ⟨rfl, h⟩
  replace k := k.trans (h.mono k.size); clear h
  go_wp2_with fail
  go_ret
  exact ⟨rfl, k⟩
theorem no2 (a b : Int) (ha : inI 65536 a = false) (hb : inI 65536 b = true) (w : World) : Calls Try.prog 6 #[.int .i64 a, .int .i64 b] w fun e w' => e = .returned (.bool true) ∧ Below w.heap.size w w' := by
  obtain ⟨q', r', c', p', hv'⟩ := ofV_site b
  have k := Below.refl w.heap.size w
  go_enter Try.func6, Try.ntmps6
  go_wp2_with fail
  refine (Of_no a ha _).mono ?_; rintro e w1 ⟨rfl, h⟩
  replace k := k.trans (h.mono k.size); clear h
  dsimp only [siteV]
  replace k := k.alloc k.size (.cells #[.int .i64 0, .int .i64 0, .int .i64 0, .int .i64 0] 36)
  go_wp2_with fail
  refine (Of_ok b hb _).mono ?_; rintro e w2 ⟨rfl, h⟩
  rw [hv']
  dsimp only [siteV]
  replace k := (k.trans (h.mono k.size)).alloc (k.trans (h.mono k.size)).size (.cells #[.int .i64 q', .int .i64 r', .int .i64 c', .int .i64 p'] 36)
  go_wp2_with fail
  refine (num_calls _ _).mono ?_; rintro e w1 ⟨rfl, rfl⟩
  go_wp2_with fail
  refine (num_calls _ _).mono ?_; rintro e w1 ⟨rfl, rfl⟩
  go_wp2_with fail
  refine (works_ok _).mono ?_; rintro e w1 ⟨rfl, h⟩
  replace k := k.trans (h.mono k.size); clear h
  go_wp2_with fail
  go_ret
  exact ⟨rfl, k⟩
theorem no3 (a b : Int) (ha : inI 65536 a = true) (hb : inI 65536 b = false) (w : World) : Calls Try.prog 6 #[.int .i64 a, .int .i64 b] w fun e w' => e = .returned (.bool true) ∧ Below w.heap.size w w' := by
  obtain ⟨q, r, c, p, hv⟩ := ofV_site a
  have k := Below.refl w.heap.size w
  go_enter Try.func6, Try.ntmps6
  go_wp2_with fail
  refine (Of_ok a ha _).mono ?_; rintro e w1 ⟨rfl, h⟩
  replace k := k.trans (h.mono k.size); clear h
  rw [hv]
  dsimp only [siteV]
  replace k := k.alloc k.size (.cells #[.int .i64 q, .int .i64 r, .int .i64 c, .int .i64 p] 36)
  go_wp2_with fail
  refine (Of_no b hb _).mono ?_; rintro e w2 ⟨rfl, h⟩
  dsimp only [siteV]
  replace k := (k.trans (h.mono k.size)).alloc (k.trans (h.mono k.size)).size (.cells #[.int .i64 0, .int .i64 0, .int .i64 0, .int .i64 0] 36)
  go_wp2_with fail
  refine (num_calls _ _).mono ?_; rintro e w1 ⟨rfl, rfl⟩
  go_wp2_with fail
  refine (num_calls _ _).mono ?_; rintro e w1 ⟨rfl, rfl⟩
  go_wp2_with fail
  refine (works_ok _).mono ?_; rintro e w1 ⟨rfl, h⟩
  replace k := k.trans (h.mono k.size); clear h
  go_wp2_with fail
  go_ret
  exact ⟨rfl, k⟩
theorem none' (a b : Int) (ha : inI 65536 a = true) (hb : inI 65536 b = true) (hx : ofV a = siteV 0 0 0 0) (w : World) : Calls Try.prog 6 #[.int .i64 a, .int .i64 b] w fun e w' => e = .returned (.bool true) ∧ Below w.heap.size w w' := by
  obtain ⟨q', r', c', p', hv'⟩ := ofV_site b
  have k := Below.refl w.heap.size w
  go_enter Try.func6, Try.ntmps6
  go_wp2_with fail
  refine (Of_ok a ha _).mono ?_; rintro e w1 ⟨rfl, h⟩
  replace k := k.trans (h.mono k.size); clear h
  rw [hx]
  dsimp only [siteV]
  have x := Blk.new w1 #[.int .i64 0, .int .i64 0, .int .i64 0, .int .i64 0] 36
  replace k := k.alloc k.size (.cells #[.int .i64 0, .int .i64 0, .int .i64 0, .int .i64 0] 36)
  go_wp2_with fail
  refine (Of_ok b hb _).mono ?_; rintro e w2 ⟨rfl, h⟩
  rw [hv']
  dsimp only [siteV]
  replace k := (k.trans (h.mono k.size)).alloc (k.trans (h.mono k.size)).size (.cells #[.int .i64 q', .int .i64 r', .int .i64 c', .int .i64 p'] 36)
  replace x := (x.below h x.lt).alloc (.cells #[.int .i64 q', .int .i64 r', .int .i64 c', .int .i64 p'] 36)
  have y := Blk.new w2 #[.int .i64 q', .int .i64 r', .int .i64 c', .int .i64 p'] 36
  clear h
  obtain ⟨x0, x1, x2, x3⟩ := cells4 x
  obtain ⟨y0, y1, y2, y3⟩ := cells4 y
  clear x y hx hv' ha hb
  go_wp2_with fail
  refine (num_calls _ _).mono ?_; rintro e w1 ⟨rfl, rfl⟩
  go_wp2_with fail
  refine (num_calls _ _).mono ?_; rintro e w1 ⟨rfl, rfl⟩
  cases hd : same4 0 0 0 0 q' r' c' p'
  · go_wp2_with (rw [eq4])
    refine (works_ok _).mono ?_; rintro e w3 ⟨rfl, h⟩
    replace k := k.trans (h.mono k.size)
    go_wp2_with fail
    go_ret
    exact ⟨rfl, k⟩
  · go_wp2_with (rw [eq4])
    refine (works_ok _).mono ?_; rintro e w3 ⟨rfl, h⟩
    replace k := k.trans (h.mono k.size)
    go_wp2_with fail
    go_ret
    exact ⟨rfl, k⟩
theorem book (a b : Int) (r : Nat) (hr : r < 4) (ha : inI 65536 a = true) (hb : inI 65536 b = true) (ho : okI 0 r a = true) (hx : ofV a = siteV 1 r (clI 0 r a) (plI 0 r a)) (w : World) : Calls Try.prog 6 #[.int .i64 a, .int .i64 b] w fun e w' => e = .returned (.bool true) ∧ Below w.heap.size w w' := by
  obtain ⟨q', r', c', p', hv'⟩ := ofV_site b
  have hse := same_eq (i := 0) (r := r) (a := a) (by decide) hv'
  have e : 64 * (r : Int) + 1 + plI 0 r a = a := by simp only [plI]; omega
  have g0 : 0 ≤ plI 0 r a := by simp only [okI, ok2, inI, decide_eq_true_eq] at ho; simp only [plI]; omega
  have g1 : plI 0 r a < 65536 := by simp only [okI, ok2, inI, decide_eq_true_eq] at ho; simp only [plI]; omega
  have hs : slotI r = true := by simp [slotI]; omega
  clear ho
  rw [show ((0 : Nat) : Int) + 1 = 1 from rfl] at hse
  generalize clI 0 r a = c at *
  generalize plI 0 r a = p at *
  have k := Below.refl w.heap.size w
  go_enter Try.func6, Try.ntmps6
  go_wp2_with fail
  refine (Of_ok a ha _).mono ?_; rintro e w1 ⟨rfl, h⟩
  replace k := k.trans (h.mono k.size); clear h
  rw [hx]
  dsimp only [siteV]
  have x := Blk.new w1 #[.int .i64 1, .int .i64 r, .int .i64 c, .int .i64 p] 36
  replace k := k.alloc k.size (.cells #[.int .i64 1, .int .i64 r, .int .i64 c, .int .i64 p] 36)
  go_wp2_with fail
  refine (Of_ok b hb _).mono ?_; rintro e w2 ⟨rfl, h⟩
  rw [hv']
  dsimp only [siteV]
  replace k := (k.trans (h.mono k.size)).alloc (k.trans (h.mono k.size)).size (.cells #[.int .i64 q', .int .i64 r', .int .i64 c', .int .i64 p'] 36)
  replace x := (x.below h x.lt).alloc (.cells #[.int .i64 q', .int .i64 r', .int .i64 c', .int .i64 p'] 36)
  have y := Blk.new w2 #[.int .i64 q', .int .i64 r', .int .i64 c', .int .i64 p'] 36
  clear h
  obtain ⟨x0, x1, x2, x3⟩ := cells4 x
  obtain ⟨y0, y1, y2, y3⟩ := cells4 y
  clear x y hx hv' ha hb
  go_wp2_with fail
  refine (num_calls _ _).mono ?_; rintro e w1 ⟨rfl, rfl⟩
  go_wp2_with fail
  refine (num_calls _ _).mono ?_; rintro e w1 ⟨rfl, rfl⟩
  cases hd : same4 1 r c p q' r' c' p'
  · go_wp2_with (rw [eq4])
    refine (Book_ok r hs _).mono ?_; rintro e w3 ⟨rfl, h⟩
    replace k := k.trans (h.mono k.size)
    replace x0 := (h.cell (p := ⟨w1.heap.size, 0, none⟩) (World.block_lt_of_cell? _ _ x0)).trans x0
    replace x3 := (h.cell (p := ⟨w1.heap.size, 3, none⟩) (World.block_lt_of_cell? _ _ x3)).trans x3
    clear x1 x2 y0 y1 y2 y3 h
    go_wp2_with fail
    refine (num_calls _ _).mono ?_; rintro e w1 ⟨rfl, rfl⟩
    go_wp2_with fail
    refine (works_ok _).mono ?_; rintro e w1 ⟨rfl, h⟩
    replace k := k.trans (h.mono k.size); clear h
    go_wp2_with fail
    go_ret
    exact ⟨rfl, k⟩
  · obtain rfl := hse hd
    go_wp2_with (rw [eq4])
    refine (Book_ok r hs _).mono ?_; rintro e w3 ⟨rfl, h⟩
    replace k := k.trans (h.mono k.size)
    replace x0 := (h.cell (p := ⟨w1.heap.size, 0, none⟩) (World.block_lt_of_cell? _ _ x0)).trans x0
    replace x3 := (h.cell (p := ⟨w1.heap.size, 3, none⟩) (World.block_lt_of_cell? _ _ x3)).trans x3
    clear x1 x2 y0 y1 y2 y3 h
    go_wp2_with fail
    refine (num_calls _ _).mono ?_; rintro e w1 ⟨rfl, rfl⟩
    go_wp2_with fail
    refine (works_ok _).mono ?_; rintro e w1 ⟨rfl, h⟩
    replace k := k.trans (h.mono k.size); clear h
    go_wp2_with fail
    go_ret
    exact ⟨rfl, k⟩
theorem great (a b : Int) (r : Nat) (hr : r < 4) (ha : inI 65536 a = true) (hb : inI 65536 b = true) (ho : okI 2 r a = true) (hx : ofV a = siteV 3 r (clI 2 r a) (plI 2 r a)) (w : World) : Calls Try.prog 6 #[.int .i64 a, .int .i64 b] w fun e w' => e = .returned (.bool true) ∧ Below w.heap.size w w' := by
  obtain ⟨q', r', c', p', hv'⟩ := ofV_site b
  have hse := same_eq (i := 2) (r := r) (a := a) (by decide) hv'
  have e : 4096 * ((r : Int) + 1) + plI 2 r a = a := by simp only [plI]; omega
  have g0 : 0 ≤ plI 2 r a := by simp only [okI, ok2, inI, decide_eq_true_eq] at ho; simp only [plI]; omega
  have g1 : plI 2 r a < 65536 := by simp only [okI, ok2, inI, decide_eq_true_eq] at ho; simp only [plI]; omega
  have hs : slotI r = true := by simp [slotI]; omega
  clear ho
  rw [show ((2 : Nat) : Int) + 1 = 3 from rfl] at hse
  generalize clI 2 r a = c at *
  generalize plI 2 r a = p at *
  have k := Below.refl w.heap.size w
  go_enter Try.func6, Try.ntmps6
  go_wp2_with fail
  refine (Of_ok a ha _).mono ?_; rintro e w1 ⟨rfl, h⟩
  replace k := k.trans (h.mono k.size); clear h
  rw [hx]
  dsimp only [siteV]
  have x := Blk.new w1 #[.int .i64 3, .int .i64 r, .int .i64 c, .int .i64 p] 36
  replace k := k.alloc k.size (.cells #[.int .i64 3, .int .i64 r, .int .i64 c, .int .i64 p] 36)
  go_wp2_with fail
  refine (Of_ok b hb _).mono ?_; rintro e w2 ⟨rfl, h⟩
  rw [hv']
  dsimp only [siteV]
  replace k := (k.trans (h.mono k.size)).alloc (k.trans (h.mono k.size)).size (.cells #[.int .i64 q', .int .i64 r', .int .i64 c', .int .i64 p'] 36)
  replace x := (x.below h x.lt).alloc (.cells #[.int .i64 q', .int .i64 r', .int .i64 c', .int .i64 p'] 36)
  have y := Blk.new w2 #[.int .i64 q', .int .i64 r', .int .i64 c', .int .i64 p'] 36
  clear h
  obtain ⟨x0, x1, x2, x3⟩ := cells4 x
  obtain ⟨y0, y1, y2, y3⟩ := cells4 y
  clear x y hx hv' ha hb
  go_wp2_with fail
  refine (num_calls _ _).mono ?_; rintro e w1 ⟨rfl, rfl⟩
  go_wp2_with fail
  refine (num_calls _ _).mono ?_; rintro e w1 ⟨rfl, rfl⟩
  cases hd : same4 3 r c p q' r' c' p'
  · go_wp2_with (rw [eq4])
    refine (Base_ok r hs _).mono ?_; rintro e w3 ⟨rfl, h⟩
    replace k := k.trans (h.mono k.size)
    replace x0 := (h.cell (p := ⟨w1.heap.size, 0, none⟩) (World.block_lt_of_cell? _ _ x0)).trans x0
    replace x3 := (h.cell (p := ⟨w1.heap.size, 3, none⟩) (World.block_lt_of_cell? _ _ x3)).trans x3
    clear x1 x2 y0 y1 y2 y3 h
    go_wp2_with fail
    refine (num_calls _ _).mono ?_; rintro e w1 ⟨rfl, rfl⟩
    go_wp2_with fail
    refine (works_ok _).mono ?_; rintro e w1 ⟨rfl, h⟩
    replace k := k.trans (h.mono k.size); clear h
    go_wp2_with fail
    go_ret
    exact ⟨rfl, k⟩
  · obtain rfl := hse hd
    go_wp2_with (rw [eq4])
    refine (Base_ok r hs _).mono ?_; rintro e w3 ⟨rfl, h⟩
    replace k := k.trans (h.mono k.size)
    replace x0 := (h.cell (p := ⟨w1.heap.size, 0, none⟩) (World.block_lt_of_cell? _ _ x0)).trans x0
    replace x3 := (h.cell (p := ⟨w1.heap.size, 3, none⟩) (World.block_lt_of_cell? _ _ x3)).trans x3
    clear x1 x2 y0 y1 y2 y3 h
    go_wp2_with fail
    refine (num_calls _ _).mono ?_; rintro e w1 ⟨rfl, rfl⟩
    go_wp2_with fail
    refine (works_ok _).mono ?_; rintro e w1 ⟨rfl, h⟩
    replace k := k.trans (h.mono k.size); clear h
    go_wp2_with fail
    go_ret
    exact ⟨rfl, k⟩
theorem gap (a b : Int) (r : Nat) (hr : r < 4) (ha : inI 65536 a = true) (hb : inI 65536 b = true) (ho : okI 3 r a = true) (hx : ofV a = siteV 4 r (clI 3 r a) (plI 3 r a)) (w : World) : Calls Try.prog 6 #[.int .i64 a, .int .i64 b] w fun e w' => e = .returned (.bool true) ∧ Below w.heap.size w w' := by
  obtain ⟨q', r', c', p', hv'⟩ := ofV_site b
  have hse := same_eq (i := 3) (r := r) (a := a) (by decide) hv'
  have e : 4096 * ((r : Int) + 1) + plI 3 r a = a := by simp only [plI]; omega
  have g0 : 0 ≤ plI 3 r a := by simp only [okI, ok2, inI, decide_eq_true_eq] at ho; simp only [plI]; omega
  have g1 : plI 3 r a < 65536 := by simp only [okI, ok2, inI, decide_eq_true_eq] at ho; simp only [plI]; omega
  have hs : slotI r = true := by simp [slotI]; omega
  clear ho
  rw [show ((3 : Nat) : Int) + 1 = 4 from rfl] at hse
  generalize clI 3 r a = c at *
  generalize plI 3 r a = p at *
  have k := Below.refl w.heap.size w
  go_enter Try.func6, Try.ntmps6
  go_wp2_with fail
  refine (Of_ok a ha _).mono ?_; rintro e w1 ⟨rfl, h⟩
  replace k := k.trans (h.mono k.size); clear h
  rw [hx]
  dsimp only [siteV]
  have x := Blk.new w1 #[.int .i64 4, .int .i64 r, .int .i64 c, .int .i64 p] 36
  replace k := k.alloc k.size (.cells #[.int .i64 4, .int .i64 r, .int .i64 c, .int .i64 p] 36)
  go_wp2_with fail
  refine (Of_ok b hb _).mono ?_; rintro e w2 ⟨rfl, h⟩
  rw [hv']
  dsimp only [siteV]
  replace k := (k.trans (h.mono k.size)).alloc (k.trans (h.mono k.size)).size (.cells #[.int .i64 q', .int .i64 r', .int .i64 c', .int .i64 p'] 36)
  replace x := (x.below h x.lt).alloc (.cells #[.int .i64 q', .int .i64 r', .int .i64 c', .int .i64 p'] 36)
  have y := Blk.new w2 #[.int .i64 q', .int .i64 r', .int .i64 c', .int .i64 p'] 36
  clear h
  obtain ⟨x0, x1, x2, x3⟩ := cells4 x
  obtain ⟨y0, y1, y2, y3⟩ := cells4 y
  clear x y hx hv' ha hb
  go_wp2_with fail
  refine (num_calls _ _).mono ?_; rintro e w1 ⟨rfl, rfl⟩
  go_wp2_with fail
  refine (num_calls _ _).mono ?_; rintro e w1 ⟨rfl, rfl⟩
  cases hd : same4 4 r c p q' r' c' p'
  · go_wp2_with (rw [eq4])
    refine (Base_ok r hs _).mono ?_; rintro e w3 ⟨rfl, h⟩
    replace k := k.trans (h.mono k.size)
    replace x0 := (h.cell (p := ⟨w1.heap.size, 0, none⟩) (World.block_lt_of_cell? _ _ x0)).trans x0
    replace x3 := (h.cell (p := ⟨w1.heap.size, 3, none⟩) (World.block_lt_of_cell? _ _ x3)).trans x3
    clear x1 x2 y0 y1 y2 y3 h
    go_wp2_with fail
    refine (num_calls _ _).mono ?_; rintro e w1 ⟨rfl, rfl⟩
    go_wp2_with fail
    refine (works_ok _).mono ?_; rintro e w1 ⟨rfl, h⟩
    replace k := k.trans (h.mono k.size); clear h
    go_wp2_with fail
    go_ret
    exact ⟨rfl, k⟩
  · obtain rfl := hse hd
    go_wp2_with (rw [eq4])
    refine (Base_ok r hs _).mono ?_; rintro e w3 ⟨rfl, h⟩
    replace k := k.trans (h.mono k.size)
    replace x0 := (h.cell (p := ⟨w1.heap.size, 0, none⟩) (World.block_lt_of_cell? _ _ x0)).trans x0
    replace x3 := (h.cell (p := ⟨w1.heap.size, 3, none⟩) (World.block_lt_of_cell? _ _ x3)).trans x3
    clear x1 x2 y0 y1 y2 y3 h
    go_wp2_with fail
    refine (num_calls _ _).mono ?_; rintro e w1 ⟨rfl, rfl⟩
    go_wp2_with fail
    refine (works_ok _).mono ?_; rintro e w1 ⟨rfl, h⟩
    replace k := k.trans (h.mono k.size); clear h
    go_wp2_with fail
    go_ret
    exact ⟨rfl, k⟩
theorem Of_gap (n : Int) (r c : Nat) (hr : r < 4) (hc : c ≤ 8) (hn : n = 4096 * ((r : Int) + 1) + 17 * c) (w : World) : Calls Try.prog 19 #[.int .i64 n] w fun e w' => e = .returned (.tuple #[siteV 4 r 0 (17 * c), .int .i64 0]) ∧ Below w.heap.size w w' := by
  subst hn
  refine (Of_ok _ (by simp [inI]; omega) w).mono ?_
  rintro e w' ⟨rfl, h⟩
  exact ⟨by rw [gap_at r hr c hc], h⟩
theorem region (a b : Int) (r : Nat) (hr : r < 4) (ha : inI 65536 a = true) (hb : inI 65536 b = true) (ho : okI 1 r a = true) (hx : ofV a = siteV 2 r (clI 1 r a) (plI 1 r a)) (w : World) : Calls Try.prog 6 #[.int .i64 a, .int .i64 b] w fun e w' => e = .returned (.bool true) ∧ Below w.heap.size w w' := by
  obtain ⟨q', r', c', p', hv'⟩ := ofV_site b
  have hse := same_eq (i := 1) (r := r) (a := a) (by decide) hv'
  have e : 4096 * ((r : Int) + 1) + 1 + 17 * clI 1 r a + plI 1 r a = a := by simp only [plI, clI]; omega
  have g0 : 0 ≤ plI 1 r a := by simp only [okI, ok2, inI, decide_eq_true_eq] at ho; simp only [plI]; omega
  have g1 : plI 1 r a < 65536 := by simp only [okI, ok2, inI, decide_eq_true_eq] at ho; simp only [plI]; omega
  have g2 : 0 ≤ clI 1 r a := by simp only [okI, ok2, inI, decide_eq_true_eq] at ho; simp only [clI]; omega
  have g3 : clI 1 r a < 8 := by simp only [okI, ok2, inI, decide_eq_true_eq] at ho; simp only [clI]; omega
  have hs : slotI r = true := by simp [slotI]; omega
  clear ho
  rw [show ((1 : Nat) : Int) + 1 = 2 from rfl] at hse
  generalize clI 1 r a = cz at *
  generalize plI 1 r a = p at *
  obtain ⟨c, rfl⟩ : ∃ c : Nat, cz = c := ⟨cz.toNat, by omega⟩
  have hc : inI 8 c = true := by simp [inI]; omega
  have k := Below.refl w.heap.size w
  go_enter Try.func6, Try.ntmps6
  go_wp2_with fail
  refine (Of_ok a ha _).mono ?_; rintro e w1 ⟨rfl, h⟩
  replace k := k.trans (h.mono k.size); clear h
  rw [hx]
  dsimp only [siteV]
  have x := Blk.new w1 #[.int .i64 2, .int .i64 r, .int .i64 c, .int .i64 p] 36
  replace k := k.alloc k.size (.cells #[.int .i64 2, .int .i64 r, .int .i64 c, .int .i64 p] 36)
  go_wp2_with fail
  refine (Of_ok b hb _).mono ?_; rintro e w2 ⟨rfl, h⟩
  rw [hv']
  dsimp only [siteV]
  replace k := (k.trans (h.mono k.size)).alloc (k.trans (h.mono k.size)).size (.cells #[.int .i64 q', .int .i64 r', .int .i64 c', .int .i64 p'] 36)
  replace x := (x.below h x.lt).alloc (.cells #[.int .i64 q', .int .i64 r', .int .i64 c', .int .i64 p'] 36)
  have y := Blk.new w2 #[.int .i64 q', .int .i64 r', .int .i64 c', .int .i64 p'] 36
  clear h
  obtain ⟨x0, x1, x2, x3⟩ := cells4 x
  obtain ⟨y0, y1, y2, y3⟩ := cells4 y
  clear x y hx hv' ha hb
  go_wp2_with fail
  refine (num_calls _ _).mono ?_; rintro e w1 ⟨rfl, rfl⟩
  go_wp2_with fail
  refine (num_calls _ _).mono ?_; rintro e w1 ⟨rfl, rfl⟩
  cases hd : same4 2 r c p q' r' c' p'
  · go_wp2_with (rw [eq4])
    refine (Region_ok r c hs hc _).mono ?_; rintro e w3 ⟨rfl, h⟩
    replace k := k.trans (h.mono k.size)
    replace x0 := (h.cell (p := ⟨w1.heap.size, 0, none⟩) (World.block_lt_of_cell? _ _ x0)).trans x0
    replace x3 := (h.cell (p := ⟨w1.heap.size, 3, none⟩) (World.block_lt_of_cell? _ _ x3)).trans x3
    clear x1 x2 y0 y1 y2 y3 h
    go_wp2_with fail
    refine (Of_gap _ r c hr (by omega) (by omega) _).mono ?_; rintro e w4 ⟨rfl, h⟩
    replace k := (k.trans (h.mono k.size)).alloc (k.trans (h.mono k.size)).size (.cells #[.int .i64 4, .int .i64 r, .int .i64 0, .int .i64 (17 * c)] 36)
    replace x0 := (((Below.refl _ w3).trans h).alloc h.size (.cells #[.int .i64 4, .int .i64 r, .int .i64 0, .int .i64 (17 * c)] 36)).cell (p := ⟨w1.heap.size, 0, none⟩) (World.block_lt_of_cell? _ _ x0) |>.trans x0
    replace x3 := (((Below.refl _ w3).trans h).alloc h.size (.cells #[.int .i64 4, .int .i64 r, .int .i64 0, .int .i64 (17 * c)] 36)).cell (p := ⟨w1.heap.size, 3, none⟩) (World.block_lt_of_cell? _ _ x3) |>.trans x3
    have u := Blk.new w4 #[.int .i64 4, .int .i64 r, .int .i64 0, .int .i64 (17 * c)] 36
    clear h
    dsimp only [siteV]
    go_wp2_with fail
    refine (Of_gap _ r (c + 1) hr (by omega) (by omega) _).mono ?_; rintro e w5 ⟨rfl, h⟩
    rw [show ((c + 1 : Nat) : Int) = (c : Int) + 1 from by simp]
    replace k := (k.trans (h.mono k.size)).alloc (k.trans (h.mono k.size)).size (.cells #[.int .i64 4, .int .i64 r, .int .i64 0, .int .i64 (17 * ((c : Int) + 1))] 36)
    replace x0 := (((Below.refl _ _).trans h).alloc h.size (.cells #[.int .i64 4, .int .i64 r, .int .i64 0, .int .i64 (17 * ((c : Int) + 1))] 36)).cell (p := ⟨w1.heap.size, 0, none⟩) (World.block_lt_of_cell? _ _ x0) |>.trans x0
    replace x3 := (((Below.refl _ _).trans h).alloc h.size (.cells #[.int .i64 4, .int .i64 r, .int .i64 0, .int .i64 (17 * ((c : Int) + 1))] 36)).cell (p := ⟨w1.heap.size, 3, none⟩) (World.block_lt_of_cell? _ _ x3) |>.trans x3
    replace u := (u.below h u.lt).alloc (.cells #[.int .i64 4, .int .i64 r, .int .i64 0, .int .i64 (17 * ((c : Int) + 1))] 36)
    have u0 := u.cell 0 rfl
    have v := Blk.new w5 #[.int .i64 4, .int .i64 r, .int .i64 0, .int .i64 (17 * ((c : Int) + 1))] 36
    have v0 := v.cell 0 rfl
    clear h u v
    dsimp only [siteV]
    go_wp2_with fail
    refine (num_calls _ _).mono ?_; rintro e w1 ⟨rfl, rfl⟩
    go_wp2_with fail
    refine (num_calls _ _).mono ?_; rintro e w1 ⟨rfl, rfl⟩
    go_wp2_with fail
    refine (num_calls _ _).mono ?_; rintro e w1 ⟨rfl, rfl⟩
    go_wp2_with fail
    refine (works_ok _).mono ?_; rintro e w1 ⟨rfl, h⟩
    replace k := k.trans (h.mono k.size); clear h
    go_wp2_with fail
    go_ret
    exact ⟨rfl, k⟩
  · obtain rfl := hse hd
    go_wp2_with (rw [eq4])
    refine (Region_ok r c hs hc _).mono ?_; rintro e w3 ⟨rfl, h⟩
    replace k := k.trans (h.mono k.size)
    replace x0 := (h.cell (p := ⟨w1.heap.size, 0, none⟩) (World.block_lt_of_cell? _ _ x0)).trans x0
    replace x3 := (h.cell (p := ⟨w1.heap.size, 3, none⟩) (World.block_lt_of_cell? _ _ x3)).trans x3
    clear x1 x2 y0 y1 y2 y3 h
    go_wp2_with fail
    refine (Of_gap _ r c hr (by omega) (by omega) _).mono ?_; rintro e w4 ⟨rfl, h⟩
    replace k := (k.trans (h.mono k.size)).alloc (k.trans (h.mono k.size)).size (.cells #[.int .i64 4, .int .i64 r, .int .i64 0, .int .i64 (17 * c)] 36)
    replace x0 := (((Below.refl _ w3).trans h).alloc h.size (.cells #[.int .i64 4, .int .i64 r, .int .i64 0, .int .i64 (17 * c)] 36)).cell (p := ⟨w1.heap.size, 0, none⟩) (World.block_lt_of_cell? _ _ x0) |>.trans x0
    replace x3 := (((Below.refl _ w3).trans h).alloc h.size (.cells #[.int .i64 4, .int .i64 r, .int .i64 0, .int .i64 (17 * c)] 36)).cell (p := ⟨w1.heap.size, 3, none⟩) (World.block_lt_of_cell? _ _ x3) |>.trans x3
    have u := Blk.new w4 #[.int .i64 4, .int .i64 r, .int .i64 0, .int .i64 (17 * c)] 36
    clear h
    dsimp only [siteV]
    go_wp2_with fail
    refine (Of_gap _ r (c + 1) hr (by omega) (by omega) _).mono ?_; rintro e w5 ⟨rfl, h⟩
    rw [show ((c + 1 : Nat) : Int) = (c : Int) + 1 from by simp]
    replace k := (k.trans (h.mono k.size)).alloc (k.trans (h.mono k.size)).size (.cells #[.int .i64 4, .int .i64 r, .int .i64 0, .int .i64 (17 * ((c : Int) + 1))] 36)
    replace x0 := (((Below.refl _ _).trans h).alloc h.size (.cells #[.int .i64 4, .int .i64 r, .int .i64 0, .int .i64 (17 * ((c : Int) + 1))] 36)).cell (p := ⟨w1.heap.size, 0, none⟩) (World.block_lt_of_cell? _ _ x0) |>.trans x0
    replace x3 := (((Below.refl _ _).trans h).alloc h.size (.cells #[.int .i64 4, .int .i64 r, .int .i64 0, .int .i64 (17 * ((c : Int) + 1))] 36)).cell (p := ⟨w1.heap.size, 3, none⟩) (World.block_lt_of_cell? _ _ x3) |>.trans x3
    replace u := (u.below h u.lt).alloc (.cells #[.int .i64 4, .int .i64 r, .int .i64 0, .int .i64 (17 * ((c : Int) + 1))] 36)
    have u0 := u.cell 0 rfl
    have v := Blk.new w5 #[.int .i64 4, .int .i64 r, .int .i64 0, .int .i64 (17 * ((c : Int) + 1))] 36
    have v0 := v.cell 0 rfl
    clear h u v
    dsimp only [siteV]
    go_wp2_with fail
    refine (num_calls _ _).mono ?_; rintro e w1 ⟨rfl, rfl⟩
    go_wp2_with fail
    refine (num_calls _ _).mono ?_; rintro e w1 ⟨rfl, rfl⟩
    go_wp2_with fail
    refine (num_calls _ _).mono ?_; rintro e w1 ⟨rfl, rfl⟩
    go_wp2_with fail
    refine (works_ok _).mono ?_; rintro e w1 ⟨rfl, h⟩
    replace k := k.trans (h.mono k.size); clear h
    go_wp2_with fail
    go_ret
    exact ⟨rfl, k⟩
theorem body (a b : Int) (_ : -9223372036854775808 ≤ a) (_ : a ≤ 9223372036854775807) (_ : -9223372036854775808 ≤ b) (_ : b ≤ 9223372036854775807) (w : World) : Calls Try.prog 6 #[.int .i64 a, .int .i64 b] w fun e w' => e = .returned (.bool true) ∧ Below w.heap.size w w' := by
  by_cases ha : inI 65536 a = true
  · by_cases hb : inI 65536 b = true
    · rcases ofV_cases a with hx | ⟨r, i, hr, hi, ho, hx⟩
      · exact none' a b ha hb hx w
      · match i, hi with
        | 0, _ => exact book a b r hr ha hb ho hx w
        | 1, _ => exact region a b r hr ha hb ho hx w
        | 2, _ => exact great a b r hr ha hb ho hx w
        | 3, _ => exact gap a b r hr ha hb ho hx w
    · exact no3 a b ha (by simpa using hb) w
  · by_cases hb : inI 65536 b = true
    · exact no2 a b (by simpa using ha) hb w
    · exact no1 a b (by simpa using ha) (by simpa using hb) w

theorem walk (H : Type) (enc : TypeId × Value → H) (W : World) (base : Nat) (args : Array Value) (ds : List (DataW H)) (p : List MemPlace)
    (hval : ∀ (j : Nat) t v, Try.f6.params[j]? = some t → args[j]? = some v → Value.okWide Try.prog W .any base t v)
    (hA : DataW.TrodAll enc Try.prog W 0 (fun _ => true) true Try.f6.params.toList args.toList ds p) (hlt : ∀ x ∈ p, x.block < W.heap.size) :
    Calls Try.prog 6 args W (fun e W' => e = .returned (.bool true) ∧ Below W.heap.size W W') ∧ ∃ d0 d1, ds = [d0, d1] := by
  rw [Try.params6] at hA hval
  obtain ⟨v0, vs0, d0, ds0, p0, q0, hargs, rfl, rfl, h0, r0⟩ := trodAll_cons hA
  obtain ⟨v1, vs1, d1, ds1, p1, q1, rfl, rfl, rfl, h1, r1⟩ := trodAll_cons r0
  obtain ⟨rfl, rfl, rfl⟩ := trodAll_nil r1
  obtain rfl : args = #[v0, v1] := by cases args; simp_all
  obtain ⟨a0, rfl, rfl, rfl, w0⟩ := open_int Try.underlying3 (hval 0 3 v0 rfl rfl) h0
  obtain ⟨a1, rfl, rfl, rfl, w1⟩ := open_int Try.underlying3 (hval 1 3 v1 rfl rfl) h1
  have b0 := i64_bd w0
  have b1 := i64_bd w1
  exact ⟨body a0 a1 b0.1 b0.2 b1.1 b1.2 W, _, _, rfl⟩

theorem own : ownKnob Try.prog.godebug = none := by kernel_rfl
set_option maxRecDepth 100000 in
theorem lifted (os : Os) (started : os.Started) (H : Type) (enc : TypeId × Value → H) :
    ReturnsInHanded {} Try.checked os 6 .any (Rows.windowHoldsSpec.pre6 enc Try.prog Try.f6 Rows.windowHoldsRow.domain false) (Rows.windowHoldsSpec.post enc Try.prog Try.f6 false true false false) := by
  refine returnsInHanded_of_change (C := Try.checked) own started (by kernel_rfl) Try.func6
    (ChangeSpec.witness6 (enc := enc) (C := Try.checked) false ⟨#[], #[.int .i64 0, .int .i64 0], []⟩ 8 (by kernel_rfl) (by kernel_rfl) (by kernel_rfl) (by kernel_rfl)) ?_
  intro W base args ds gs before hval hW hcnd _
  have hW' := hW
  obtain ⟨p, q, hA, hV, rfl, hfz, hnd⟩ := hW
  obtain ⟨rfl, rfl⟩ := trodVars_none hV
  have hlt : ∀ x ∈ p, x.block < W.heap.size := fun x hx => hW'.lt x (List.mem_append_left _ hx)
  obtain ⟨hc, d0, d1, rfl⟩ := walk H enc W base args ds p hval hA hlt
  refine hc.mono fun e W' ⟨he, hb⟩ => ?_
  subst he
  exact ⟨_, rfl, law_post (by kernel_rfl) (by kernel_rfl) rfl (by kernel_rfl) rfl rfl rfl rfl hW' hA hlt hb⟩

theorem over : Rows.windowHoldsRow.holds Try.pinned (OpenSpec.ofChange Rows.windowHoldsSpec) :=
  OpenClaim.holds_of_wide 6 Try.f6 rfl rfl rfl rfl rfl rfl rfl ⟨rfl, rfl, rfl, rfl, rfl⟩ rfl rfl rfl rfl rfl (by kernel_rfl) Try.func6 (by kernel_rfl)
    (of_decide_eq_true (by kernel_rfl)) (by unfold Func.isWrapper; first | (rw [if_pos (by decide +kernel)]; kernel_rfl) | (rw [if_neg (by decide +kernel)]; exact ⟨rfl, rfl⟩))
    (fun os started H enc _ => lifted os started H enc)

theorem proved : Rows.WindowHoldsSaid :=
  over

end Go.Proofs.Ytcgdipkmcgionaa.windowHolds
