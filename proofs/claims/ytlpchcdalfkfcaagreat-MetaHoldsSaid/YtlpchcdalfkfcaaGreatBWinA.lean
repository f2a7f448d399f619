/-
 Package window: slots, bases, bounds.
-/
import Derived.Test.YtlpchcdalfkfcaaGreatRows
import Derived.Test.YtlpchcdalfkfcaaGreatBCore
import Derived.Deep.RegionHeld3
namespace Go.Proofs.YtlpchcdalfkfcaaGreat
open Go.RowKit
set_option maxHeartbeats 400000

def slotI (s : Int) : Bool := decide (0 ≤ s ∧ s < 4)
def inI (b n : Int) : Bool := decide (0 ≤ n ∧ n < b)
theorem is_callsW (s : Int) (w : World) : Calls Tryz.prog 66 #[.int .i64 s] w fun e w' => e = .returned (.bool (slotI s)) ∧ w = w' := by
 by_cases h : 0 ≤ s
 ·have hd : decide (0 ≤ s) = true := by simpa using h
  go_enter Tryz.func66, Tryz.ntmps66
  go_wp2_with fail
  go_ret
  exact ⟨by simp [slotI, h], rfl⟩
 ·have hd : decide (0 ≤ s) = false := by simpa using h
  have hr : slotI s = false := by simp [slotI]; omega
  rw [hr]
  go_enter Tryz.func66, Tryz.ntmps66
  go_wp2_with fail
  go_ret
  exact ⟨rfl, rfl⟩
theorem base_calls (s : Int) (h : slotI s = true) (w : World) : Calls Tryz.prog 77 #[.agg #[.int .i64 s]] w fun e w' => e = .returned (.int .i64 (4096 * (s + 1))) ∧ Below w.heap.size w w' := by
 have hs : 0 ≤ s ∧ s < 4 := by simpa [slotI] using h
 obtain ⟨h0, h1⟩ := hs
 go_enter Tryz.func77, Tryz.ntmps77
 go_wp2_with fail
 go_ret
 exact ⟨rfl, (Below.refl _ w).alloc (Nat.le_refl _) _⟩
theorem book_calls (s : Int) (h : slotI s = true) (w : World) : Calls Tryz.prog 137 #[.agg #[.int .i64 s]] w fun e w' => e = .returned (.int .i64 (64 * s + 1)) ∧ Below w.heap.size w w' := by
 have hs : 0 ≤ s ∧ s < 4 := by simpa [slotI] using h
 obtain ⟨h0, h1⟩ := hs
 go_enter Tryz.func137, Tryz.ntmps137
 go_wp2_with fail
 go_ret
 exact ⟨rfl, (Below.refl _ w).alloc (Nat.le_refl _) _⟩
theorem region_calls (s c : Int) (h : slotI s = true) (hc : inI 8 c = true) (w : World) : Calls Tryz.prog 68 #[.agg #[.int .i64 s], .int .i64 c] w fun e w' => e = .returned (.int .i64 (4096 * (s + 1) + 1 + 17 * c)) ∧ Below w.heap.size w w' := by
 have hs : 0 ≤ s ∧ s < 4 := by simpa [slotI] using h
 have hc' : 0 ≤ c ∧ c < 8 := by simpa [inI] using hc
 obtain ⟨h0, h1⟩ := hs
 obtain ⟨h2, h3⟩ := hc'
 go_enter Tryz.func68, Tryz.ntmps68
 go_wp2_with fail
 refine (base_calls s h _).mono ?_; rintro e w1 ⟨rfl, hb⟩
 go_wp2_with fail
 go_ret
 exact ⟨rfl, ((Below.refl _ w).alloc (Nat.le_refl _) _).trans (hb.mono (by simp))⟩
/-- fits's closure. -/
theorem fits1_calls (b n : Int) (bs : Nat) (w : World) (hbox : w.cell? ⟨bs, 0, none⟩ = some (.int .i64 b)) :
  Calls Tryz.prog 132 #[.int .i64 n, .pointer (some ⟨bs, 0, none⟩)] w fun e w' => e = .returned (.bool (!inI b n)) ∧ w = w' := by
 by_cases h : n < 0
 ·have hr : inI b n = false := by simp [inI]; omega
  rw [hr]
  have hr : decide (n < 0) = true := by simpa using h
  go_enter Tryz.func132, Tryz.ntmps132
  go_wp2_with fail
  go_ret
  exact ⟨rfl, rfl⟩
 ·by_cases h2 : b ≤ n
  ·have hr : inI b n = false := by simp [inI]; omega
   rw [hr]
   have hr : decide (n < 0) = false := by simpa using h
   have hr2 : decide (b ≤ n) = true := by simpa using h2
   go_enter Tryz.func132, Tryz.ntmps132
   go_wp2_with fail
   go_ret
   exact ⟨rfl, rfl⟩
  ·have hr : inI b n = true := by simp [inI]; omega
   rw [hr]
   have hr : decide (n < 0) = false := by simpa using h
   have hr2 : decide (b ≤ n) = false := by simpa using h2
   go_enter Tryz.func132, Tryz.ntmps132
   go_wp2_with fail
   go_ret
   exact ⟨rfl, rfl⟩
/-- One number, against a bound. -/
theorem index1 (b n : Int) (lb bs : Nat) (w : World) (hbox : w.cell? ⟨bs, 0, none⟩ = some (.int .i64 b)) (hc : w.cell? ⟨lb, 0, none⟩ = some (.int .i64 n)) :
  Calls Tryz.prog 83 #[.slice (some ⟨lb, 0, none⟩) 1 1, .func (.func 132) #[] #[.pointer (some ⟨bs, 0, none⟩)]] w fun e w' => e = .returned (.int .i64 (if inI b n = true then -1 else 0)) ∧ w = w' := by
 have eg := enters_of (P := Tryz.prog) Tryz.func132 (by kernel_rfl) rfl
 go_enter Tryz.func83, Tryz.ntmps83
 go_wp2_with fail
 go_loopw [8] (fun i wr => (i = .int .i64 0 ∨ (i = .int .i64 1 ∧ inI b n = true)) ∧ w = wr) (fun i _ => 1 - (intOf i).toNat)
 case atStart => exact ⟨.inl rfl, rfl⟩
 case round =>
  obtain ⟨(rfl | ⟨rfl, hh⟩), rfl⟩ := hrel
  ·by_cases h : inI b n = true
   ·go_wp2_with fail
    refine (fits1_calls b n bs _ hbox).mono ?_; rintro e w' ⟨rfl, rfl⟩
    rw [show (!inI b n) = false by rw [h]; rfl]
    go_wp2_with fail
    go_roundw
    case rel => exact ⟨.inr ⟨rfl, h⟩, trivial⟩
    case measure => simp [intOf]
   ·have h' : inI b n = false := by simpa using h
    clear h
    go_wp2_with fail
    refine (fits1_calls b n bs _ hbox).mono ?_; rintro e w' ⟨rfl, rfl⟩
    rw [show (!inI b n) = true by rw [h']; rfl]
    go_wp2_with fail
    all_goals (go_ret; exact ⟨rfl, rfl⟩)
  ·go_wp2_with fail
   go_ret
   exact ⟨rfl, rfl⟩
theorem fits_ok (b n : Int) (lb : Nat) (w : World) (hc : w.cell? ⟨lb, 0, none⟩ = some (.int .i64 n)) :
  Calls Tryz.prog 67 #[.int .i64 b, .slice (some ⟨lb, 0, none⟩) 1 1] w fun e w' => e = .returned (.bool (inI b n)) ∧ Below w.heap.size w w' := by
 have hl : lb < w.heap.size := World.block_lt_of_cell? w _ hc
 have hc1 : (w.alloc (.cells #[.int .i64 b] 3)).cell? ⟨lb, 0, none⟩ = some (.int .i64 n) := ((Below.refl _ w).alloc (Nat.le_refl _) _ |>.cell (p := ⟨lb, 0, none⟩) hl).trans hc
 go_enter Tryz.func67, Tryz.ntmps67
 go_wp2_with fail
 go_enter Tryz.func41, Tryz.ntmps41
 go_wp2_with fail
 refine (index1 b n lb w.heap.size _ ((Blk.new w _ _).cell 0 rfl) hc1).mono ?_; rintro e w' ⟨rfl, rfl⟩
 by_cases h : inI b n = true
 ·rw [h, if_pos rfl]
  go_wp2_with fail
  go_ret
  exact ⟨by rw [h]; rfl, (Below.refl _ w).alloc (Nat.le_refl _) _⟩
 ·have h' : inI b n = false := by simpa using h
  rw [h', if_neg (by decide)]
  go_wp2_with fail
  go_ret
  exact ⟨by rw [h']; rfl, (Below.refl _ w).alloc (Nat.le_refl _) _⟩
theorem Book_ok (s : Int) (h : slotI s = true) (w : World) : Calls Tryz.prog 149 #[.int .i64 s] w fun e w' => e = .returned (.tuple #[.int .i64 (64 * s + 1), .int .i64 0]) ∧ Below w.heap.size w w' := by
 go_enter Tryz.func149, Tryz.ntmps149
 go_wp2_with fail
 refine (is_callsW s _).mono ?_; rintro e w1 ⟨rfl, rfl⟩
 rw [h]
 go_wp2_with fail
 refine (book_calls s h _).mono ?_; rintro e w1 ⟨rfl, hb⟩
 go_wp2_with fail
 go_ret2
 exact ⟨rfl, hb⟩
theorem Book_arg (s : Int) (h : slotI s = false) (w : World) : Calls Tryz.prog 149 #[.int .i64 s] w fun e w' => e = .returned (.tuple #[.int .i64 0, .int .i64 2]) ∧ Below w.heap.size w w' := by
 go_enter Tryz.func149, Tryz.ntmps149
 go_wp2_with fail
 refine (is_callsW s _).mono ?_; rintro e w1 ⟨rfl, rfl⟩
 rw [h]
 go_wp2_with fail
 go_ret2
 exact ⟨rfl, Below.refl _ _⟩
theorem lit1 (w : World) (n : Int) (t : TypeId) : (w.alloc (.cells #[.int .i64 n] t)).cell? ⟨w.heap.size, 0, none⟩ = some (.int .i64 n) := (Blk.new w #[.int .i64 n] t).cell 0 rfl
theorem Region_ok (s c : Int) (h : slotI s = true) (hc : inI 8 c = true) (w : World) : Calls Tryz.prog 28 #[.int .i64 s, .int .i64 c] w fun e w' => e = .returned (.tuple #[.int .i64 (4096 * (s + 1) + 1 + 17 * c), .int .i64 0]) ∧ Below w.heap.size w w' := by
 go_enter Tryz.func28, Tryz.ntmps28
 go_wp2_with fail
 refine wp_scope_fwd 0 rfl ?_
 go_wp2_with (first | go_step3 | rw [fwd_goto] | rw [fwd_ret] | rw [Exit.noGoto_ret])
 refine (is_callsW s _).mono ?_; rintro e w1 ⟨rfl, rfl⟩
 rw [h]
 go_wp2_with (first | go_step3 | rw [fwd_goto] | rw [fwd_ret] | rw [Exit.noGoto_ret])
 refine (fits_ok 8 c _ _ (lit1 _ _ _)).mono ?_; rintro e w1 ⟨rfl, hb1⟩
 rw [hc]
 have hz1 := hb1.size
 simp at hz1
 go_wp2_with (first | go_step3 | rw [fwd_goto] | rw [fwd_ret] | rw [Exit.noGoto_ret])
 refine (region_calls s c h hc _).mono ?_; rintro e w2 ⟨rfl, hb2⟩
 go_wp2_with (first | go_step3 | rw [fwd_goto] | rw [fwd_ret] | rw [Exit.noGoto_ret])
 go_ret2
 exact ⟨rfl, (((Below.refl _ w).alloc (Nat.le_refl _) _).trans (hb1.mono (by simp))).trans (hb2.mono (by omega))⟩
theorem Split_ok (a : Int) (h0 : 0 ≤ a) (h1 : a < 16777216) (w : World) : Calls Tryz.prog 35 #[.int .u32 a] w fun e w' => e = .returned (.tuple #[.int .i64 (a / 256), .int .i64 (a % 256), .int .i64 0]) ∧ w = w' := by
 go_enter Tryz.func35, Tryz.ntmps35
 go_wp2_with fail
 exact bodyPost_ret (v := .tuple #[.int .i64 (a / 256), .int .i64 (a % 256), .int .i64 0]) (by simp [results, Tryz.results35, go_sem]) rfl ⟨rfl, rfl⟩
theorem Split_no (a : Int) (h0 : 16777216 ≤ a) (w : World) : Calls Tryz.prog 35 #[.int .u32 a] w fun e w' => e = .returned (.tuple #[.int .i64 0, .int .i64 0, .int .i64 4]) ∧ w = w' := by
 go_enter Tryz.func35, Tryz.ntmps35
 go_wp2_with fail
 exact bodyPost_ret (v := .tuple #[.int .i64 0, .int .i64 0, .int .i64 4]) (by simp [results, Tryz.results35, go_sem]) rfl ⟨rfl, rfl⟩
end Go.Proofs.YtlpchcdalfkfcaaGreat


/-
 Package window: what a page may be.
-/
namespace Go.Proofs.YtlpchcdalfkfcaaGreat
open Go.RowKit
set_option maxHeartbeats 4000000

theorem k3 (s page from' : Int) (w : World) : Calls Tryz.prog 139 #[.agg #[.int .i64 s], .int .i64 page, .int .i64 from'] w fun e w' => e = .returned (.tuple #[.agg #[.int .i64 0, .int .i64 0, .int .i64 0, .int .i64 from'], .bool (decide (256 ≤ from' ∧ from' < 4096))]) ∧ Below w.heap.size w w' := by
 by_cases h : 256 ≤ from'
 ·have hd : decide (256 ≤ from') = true := by simpa using h
  go_enter Tryz.func139, Tryz.ntmps139
  go_wp2_with fail
  refine bodyPost_ret (v := .tuple #[.agg #[.int .i64 0, .int .i64 0, .int .i64 0, .int .i64 from'], .bool (decide (from' < 4096))]) ?_ rfl ⟨by simp [h], ((Below.refl _ w).alloc (Nat.le_refl _) _).alloc (by simp) _⟩
  simp [results, Tryz.results139, go_sem]
 ·have hd : decide (256 ≤ from') = false := by simpa using h
  go_enter Tryz.func139, Tryz.ntmps139
  go_wp2_with fail
  refine bodyPost_ret (v := .tuple #[.agg #[.int .i64 0, .int .i64 0, .int .i64 0, .int .i64 from'], .bool false]) ?_ rfl ⟨by simp, ((Below.refl _ w).alloc (Nat.le_refl _) _).alloc (by simp) _⟩
  simp [results, Tryz.results139, go_sem]
/-- What a cell holds, or nothing known. -/
def cellOr (W : World) (b i : Nat) : Value := (W.cell? ⟨b, i, none⟩).getD undef
theorem cellOr_of {W : World} {b i : Nat} {v : Value} (h : W.cell? ⟨b, i, none⟩ = some v) : W.cell? ⟨b, i, none⟩ = some (cellOr W b i) := by unfold cellOr; rw [h]; rfl
theorem below_step {B n : Nat} {w0 W W1 : World} (hb : Below n W W1) (hn : n = W.heap.size) (hB : B ≤ w0.heap.size) (h : Below B w0 W) : Below B w0 W1 := h.trans (hb.mono (by have := h.size; omega))
theorem below_made {B : Nat} {w0 W : World} (hB : B ≤ w0.heap.size) (o : Obj) (h : Below B w0 W) : Below B w0 (W.alloc o) := h.alloc (Nat.le_trans hB h.size) o
/-- Nothing below B has turned since w0; block b (from B on) has n cells. -/
def Kept (w0 : World) (B b n : Nat) (W : World) : Prop := B ≤ w0.heap.size ∧ B ≤ b ∧ Below B w0 W ∧ ∃ cs t, cs.size = n ∧ Blk W b cs t
theorem Kept.first {w0 : World} {B b : Nat} {cs : Array Value} {t : TypeId} (h1 : B ≤ w0.heap.size) (h2 : B ≤ b) (h : Blk w0 b cs t) (d : Nat) : Kept w0 B b cs.size (w0.drewN d) := ⟨h1, h2, (Below.refl _ _).drewN d, cs, t, rfl, h⟩
theorem Kept.step {w0 W W1 : World} {B b n m : Nat} (hb : Below m W W1) (hm : m = W.heap.size) (h : Kept w0 B b n W) : Kept w0 B b n W1 := by
 obtain ⟨h1, h2, h3, cs, t, h4, h5⟩ := h
 subst hm
 exact ⟨h1, h2, below_step hb rfl h1 h3, cs, t, h4, h5.below hb h5.lt⟩
theorem Kept.made {w0 W : World} {B b n : Nat} (o : Obj) (h : Kept w0 B b n W) : Kept w0 B b n (W.alloc o) := by
 obtain ⟨h1, h2, h3, cs, t, h4, h5⟩ := h
 exact ⟨h1, h2, below_made h1 o h3, cs, t, h4, h5.alloc o⟩
theorem Kept.set {w0 W : World} {B b n : Nat} (i : Nat) (v : Value) (h : Kept w0 B b n W) : Kept w0 B b n (W.setCell ⟨b, i, none⟩ v) := by
 obtain ⟨h1, h2, h3, cs, t, h4, h5⟩ := h
 exact ⟨h1, h2, h3.setCell (p := ⟨b, i, none⟩) h2 v, _, t, by simp [h4], h5.set i v⟩
theorem Kept.cell {w0 W : World} {B b n i : Nat} (h : Kept w0 B b n W) (hi : i < n) : W.cell? ⟨b, i, none⟩ = some (cellOr W b i) := by
 obtain ⟨h1, h2, h3, cs, t, h4, h5⟩ := h
 exact cellOr_of (h5.cell i (Array.getElem?_eq_getElem (by omega)))
theorem Kept.frozen {w0 W : World} {B b n i : Nat} (h : Kept w0 B b n W) : W.frozen? ⟨b, i, none⟩ = false := by
 obtain ⟨h1, h2, h3, cs, t, h4, h5⟩ := h
 exact h5.frozen i
theorem Kept.old {w0 W : World} {B b n k i : Nat} {v : Value} (h : Kept w0 B b n W) (hk : k < B) (hc : w0.cell? ⟨k, i, none⟩ = some v) : W.cell? ⟨k, i, none⟩ = some v :=
 (h.2.2.1.cell (p := ⟨k, i, none⟩) hk).trans hc
/-- At the end: the result's cells are told, the world has one name. -/
theorem post_blk4 {P : Program} {fn : Func} {R : Ending → World → Prop} {a : Act} {W : World} {b : Nat} {x0 x1 x2 x3 : Value} {t : TypeId} (hB : Blk W b #[x0, x1, x2, x3] t)
  (h : ∀ W', W' = W → W'.cell? ⟨b, 0, none⟩ = some x0 → W'.cell? ⟨b, 1, none⟩ = some x1 → W'.cell? ⟨b, 2, none⟩ = some x2 → W'.cell? ⟨b, 3, none⟩ = some x3 → bodyPost P fn R .ret a W') : bodyPost P fn R .ret a W :=
 h W rfl (hB.cell 0 rfl) (hB.cell 1 rfl) (hB.cell 2 rfl) (hB.cell 3 rfl)
theorem k1 (s page from' : Int) (hs : slotI s = true) (hp : inI 65536 page = true) (w : World) : Calls Tryz.prog 136 #[.agg #[.int .i64 s], .int .i64 page, .int .i64 from'] w fun e w' => e = .returned (.tuple #[.agg #[.int .i64 0, .int .i64 0, .int .i64 0, .int .i64 (page - (64 * s + 1))], .bool (inI 48 (page - (64 * s + 1)))]) ∧ Below w.heap.size w w' := by
 have hs' : 0 ≤ s ∧ s < 4 := by simpa [slotI] using hs
 have hp' : 0 ≤ page ∧ page < 65536 := by simpa [inI] using hp
 have hsub : IntKind.i64.wrap (page - (64 * s + 1)) = page - (64 * s + 1) := IntWalk.i64_in _ (by omega)
 go_enter Tryz.func136, Tryz.ntmps136
 go_wp2_with fail
 obtain ⟨w0, hw0⟩ : ∃ w0, (w.alloc (Obj.cells #[Value.int .i64 s] 119)).alloc (Obj.cells #[Value.int .i64 0, Value.int .i64 0, Value.int .i64 0, Value.int .i64 0] 85) = w0 := ⟨_, rfl⟩
 have hX : Blk w0 w.heap.size #[Value.int .i64 s] 119 := by rw [← hw0]; exact (Blk.new w _ _).alloc _
 have hY : Blk w0 (w.heap.size + 1) #[Value.int .i64 0, Value.int .i64 0, Value.int .i64 0, Value.int .i64 0] 85 := by rw [← hw0]; exact Blk.newAt _ _ _ (by simp)
 rw [hw0]
 have c0 : w0.cell? ⟨w.heap.size, 0, none⟩ = some (.int .i64 s) := hX.cell 0 rfl
 have hK : Kept w0 (w.heap.size + 1) (w.heap.size + 1) 4 w0.drew := Kept.first (by rw [← hw0]; simp) (Nat.le_refl _) hY 1
 have hall : ∀ W, Kept w0 (w.heap.size + 1) (w.heap.size + 1) 4 W → W.cell? ⟨w.heap.size, 0, none⟩ = some (.int .i64 s) ∧ Kept w0 (w.heap.size + 1) (w.heap.size + 1) 4 W ∧ W.cell? ⟨w.heap.size + 1, 0, none⟩ = some (cellOr W (w.heap.size + 1) 0) ∧ W.cell? ⟨w.heap.size + 1, 1, none⟩ = some (cellOr W (w.heap.size + 1) 1) ∧ W.cell? ⟨w.heap.size + 1, 2, none⟩ = some (cellOr W (w.heap.size + 1) 2) ∧ W.cell? ⟨w.heap.size + 1, 3, none⟩ = some (cellOr W (w.heap.size + 1) 3) ∧ W.frozen? ⟨w.heap.size + 1, 0, none⟩ = false ∧ W.frozen? ⟨w.heap.size + 1, 1, none⟩ = false ∧ W.frozen? ⟨w.heap.size + 1, 2, none⟩ = false ∧ W.frozen? ⟨w.heap.size + 1, 3, none⟩ = false :=
  fun W h => ⟨h.old (by omega) c0, h, h.cell (by omega), h.cell (by omega), h.cell (by omega), h.cell (by omega), h.frozen, h.frozen, h.frozen, h.frozen⟩
 go_region_held3 (fun W => W.cell? ⟨w.heap.size, 0, none⟩ = some (.int .i64 s) ∧ Kept w0 (w.heap.size + 1) (w.heap.size + 1) 4 W ∧ W.cell? ⟨w.heap.size + 1, 0, none⟩ = some (cellOr W (w.heap.size + 1) 0) ∧ W.cell? ⟨w.heap.size + 1, 1, none⟩ = some (cellOr W (w.heap.size + 1) 1) ∧ W.cell? ⟨w.heap.size + 1, 2, none⟩ = some (cellOr W (w.heap.size + 1) 2) ∧ W.cell? ⟨w.heap.size + 1, 3, none⟩ = some (cellOr W (w.heap.size + 1) 3) ∧ W.frozen? ⟨w.heap.size + 1, 0, none⟩ = false ∧ W.frozen? ⟨w.heap.size + 1, 1, none⟩ = false ∧ W.frozen? ⟨w.heap.size + 1, 2, none⟩ = false ∧ W.frozen? ⟨w.heap.size + 1, 3, none⟩ = false) (first
  | exact hall _ hK
  | exact hall _ (Kept.step hb rfl (And.left (And.right (by assumption))))
  | exact hall _ (Kept.made _ (And.left (And.right (by assumption))))
  | exact hall _ (Kept.set _ _ (Kept.set _ _ (Kept.set _ _ (Kept.set _ _ (And.left (And.right (by assumption))))))))
  (first | (go_at_call 137; refine (book_calls s hs _).mono ?_; rintro e w1 ⟨rfl, hb⟩) | (go_at_call 67; refine (fits_ok 48 _ _ _ (lit1 _ _ _)).mono ?_; rintro e w1 ⟨rfl, hb⟩))
 go_wp2_with fail
 rename_i wa hba wb hbb hHeld
 have l0 : w.heap.size + 1 < w0.heap.size := hY.lt
 have hYf := (((((((((hY.drewN 1).below hba hY.lt).below hbb (Nat.lt_of_lt_of_le l0 hba.size)).alloc (Obj.cells #[Value.int .i64 (page - (64 * s + 1))] 3)).below hb (by have := hba.size; have := hbb.size; simp at *; omega)).set 0 (.int .i64 0)).set 1 (.int .i64 0)).set 2 (.int .i64 0)).set 3 (.int .i64 (page - (64 * s + 1))))
 have hBel := hHeld.2.1.2.2.1
 clear hHeld hall hK
 refine post_blk4 (x0 := .int .i64 0) (x1 := .int .i64 0) (x2 := .int .i64 0) (x3 := .int .i64 (page - (64 * s + 1))) hYf ?_
 intro W' hW d0 d1 d2 d3
 rw [← hW] at hBel
 clear hYf hW hY hX
 refine bodyPost_ret (v := .tuple #[.agg #[.int .i64 0, .int .i64 0, .int .i64 0, .int .i64 (page - (64 * s + 1))], .bool (inI 48 (page - (64 * s + 1)))]) ?_ rfl ⟨rfl, ?_⟩
 ·simp [results, Tryz.results136, go_sem, d0, d1, d2, d3]
 ·have hw : Below w.heap.size w w0 := by rw [← hw0]; exact ((Below.refl _ w).alloc (Nat.le_refl _) _).alloc (by simp) _
  exact hw.trans (hBel.mono (by omega))
end Go.Proofs.YtlpchcdalfkfcaaGreat


/-
 Package window: what a page may be, further.
-/
namespace Go.Proofs.YtlpchcdalfkfcaaGreat
open Go.RowKit
set_option maxHeartbeats 1000000

def ok2 (f : Int) : Bool := decide (0 < f ∧ (f - 1) / 17 < 8 ∧ (f - 1) % 17 < 16)
/-- What a kind's function tells: the class and the place count only where it fits. -/
def SitePost (w : World) (ok : Bool) (c p : Int) (e : Ending) (w' : World) : Prop := ∃ c' p' : Int, e = .returned (.tuple #[.agg #[.int .i64 0, .int .i64 0, .int .i64 c', .int .i64 p'], .bool ok]) ∧ (ok = true → c' = c ∧ p' = p) ∧ Below w.heap.size w w'
theorem k2 (s page f : Int) (h1 : -100000 < f) (h2 : f < 100000) (w : World) : Calls Tryz.prog 138 #[.agg #[.int .i64 s], .int .i64 page, .int .i64 f] w (SitePost w (ok2 f) ((f - 1) / 17) ((f - 1) % 17)) := by
 have hw2 : ∀ cs, Below w.heap.size w ((w.alloc (Obj.cells #[Value.int .i64 s] 119)).alloc (Obj.cells cs 85)) := fun cs => ((Below.refl _ w).alloc (Nat.le_refl _) _).alloc (by simp) _
 by_cases g1 : 0 < f
 ·have d1 : decide (0 < f) = true := by simpa using g1
  by_cases g2 : (f - 1) / 17 < 8
  ·have d2 : decide ((f - 1) / 17 < 8) = true := by simpa using g2
   have hr : ok2 f = decide ((f - 1) % 17 < 16) := by unfold ok2; simp [g1, g2]
   rw [hr]
   clear hr
   go_enter Tryz.func138, Tryz.ntmps138
   go_wp2_with fail
   refine bodyPost_ret (v := .tuple #[.agg #[.int .i64 0, .int .i64 0, .int .i64 ((f - 1) / 17), .int .i64 ((f - 1) % 17)], .bool (decide ((f - 1) % 17 < 16))]) ?_ rfl ⟨_, _, rfl, fun _ => ⟨rfl, rfl⟩, hw2 _⟩
   simp [results, Tryz.results138, go_sem]
  ·have d2 : decide ((f - 1) / 17 < 8) = false := by simpa using g2
   have hr : ok2 f = false := by unfold ok2; simp; intro _ _; omega
   rw [hr]
   clear hr
   go_enter Tryz.func138, Tryz.ntmps138
   go_wp2_with fail
   refine bodyPost_ret (v := .tuple #[.agg #[.int .i64 0, .int .i64 0, .int .i64 ((f - 1) / 17), .int .i64 ((f - 1) % 17)], .bool false]) ?_ rfl ⟨_, _, rfl, (fun h => by cases h), hw2 _⟩
   simp [results, Tryz.results138, go_sem]
 ·have d1 : decide (0 < f) = false := by simpa using g1
  have hr : ok2 f = false := by unfold ok2; simp; omega
  rw [hr]
  clear hr
  go_enter Tryz.func138, Tryz.ntmps138
  go_wp2_with fail
  refine bodyPost_ret (v := .tuple #[.agg #[.int .i64 0, .int .i64 0, .int .i64 ((f - 1).tdiv 17), .int .i64 ((f - 1).tmod 17)], .bool false]) ?_ rfl ⟨_, _, rfl, (fun h => by cases h), hw2 _⟩
  simp [results, Tryz.results138, go_sem]
theorem k4 (s page f : Int) (w : World) : Calls Tryz.prog 140 #[.agg #[.int .i64 s], .int .i64 page, .int .i64 f] w fun e w' => e = .returned (.tuple #[.agg #[.int .i64 0, .int .i64 0, .int .i64 0, .int .i64 f], .bool (inI 4096 f)]) ∧ Below w.heap.size w w' := by
 go_enter Tryz.func140, Tryz.ntmps140
 go_wp2_with fail
 have hw2 : Below w.heap.size w ((w.alloc (Obj.cells #[Value.int .i64 s] 119)).alloc (Obj.cells #[Value.int .i64 0, Value.int .i64 0, Value.int .i64 0, Value.int .i64 0] 85)) := ((Below.refl _ w).alloc (Nat.le_refl _) _).alloc (by simp) _
 have hY : Blk ((w.alloc (Obj.cells #[Value.int .i64 s] 119)).alloc (Obj.cells #[Value.int .i64 0, Value.int .i64 0, Value.int .i64 0, Value.int .i64 0] 85)) (w.heap.size + 1) #[Value.int .i64 0, Value.int .i64 0, Value.int .i64 0, Value.int .i64 0] 85 := Blk.newAt _ _ _ (by simp)
 refine (fits_ok 4096 f (w.heap.size + 2) _ (by have := lit1 ((w.alloc (Obj.cells #[Value.int .i64 s] 119)).alloc (Obj.cells #[Value.int .i64 0, Value.int .i64 0, Value.int .i64 0, Value.int .i64 0] 85)) f 3; simpa using this)).mono ?_; rintro e w1 ⟨rfl, hb⟩
 have hY1 := (hY.alloc (Obj.cells #[Value.int .i64 f] 3)).below hb (by simp)
 have hB1 := (hw2.alloc (by simp; omega) (Obj.cells #[Value.int .i64 f] 3)).trans (hb.mono (by simp; omega))
 have hz := hb.size
 simp at hz
 have c0 := hY1.cell 0 rfl
 have c1 := hY1.cell 1 rfl
 have c2 := hY1.cell 2 rfl
 have c3 := hY1.cell 3 rfl
 have f0 := hY1.frozen 0
 have f1 := hY1.frozen 1
 have f2 := hY1.frozen 2
 have f3 := hY1.frozen 3
 go_wp2_with fail
 have hYf := (((hY1.set 0 (.int .i64 0)).set 1 (.int .i64 0)).set 2 (.int .i64 0)).set 3 (.int .i64 f)
 have hBel := (((hB1.setCell (p := ⟨w.heap.size + 1, 0, none⟩) (by simp) (.int .i64 0)).setCell (p := ⟨w.heap.size + 1, 1, none⟩) (by simp) (.int .i64 0)).setCell (p := ⟨w.heap.size + 1, 2, none⟩) (by simp) (.int .i64 0)).setCell (p := ⟨w.heap.size + 1, 3, none⟩) (by simp) (.int .i64 f)
 clear c0 c1 c2 c3 f0 f1 f2 f3 hY hY1 hB1 hw2
 refine post_blk4 (x0 := .int .i64 0) (x1 := .int .i64 0) (x2 := .int .i64 0) (x3 := .int .i64 f) hYf ?_
 intro W' hW d0 d1 d2 d3
 rw [← hW] at hBel
 clear hYf hW
 refine bodyPost_ret (v := .tuple #[.agg #[.int .i64 0, .int .i64 0, .int .i64 0, .int .i64 f], .bool (inI 4096 f)]) ?_ rfl ⟨rfl, hBel⟩
 simp [results, Tryz.results140, go_sem, d0, d1, d2, d3]
def kindCells : Array Value := #[.int .i64 1, .func (.func 136) #[] #[], .int .i64 2, .func (.func 138) #[] #[], .int .i64 3, .func (.func 139) #[] #[], .int .i64 4, .func (.func 140) #[] #[]]
theorem kinds_calls (w : World) : Calls Tryz.prog 75 #[] w fun e w' => e = .returned (.slice (some ⟨w.heap.size, 0, none⟩) 4 4) ∧ w' = w.alloc (.cells kindCells 133) := by
 go_enter Tryz.func75, Tryz.ntmps75
 go_wp2_with fail
 go_ret
 exact ⟨rfl, rfl⟩
/-- The four together: whether it fits, the class, the place. -/
def okI (i : Nat) (s page : Int) : Bool := match i with
 | 0 => inI 48 (page - (64 * s + 1))
 | 1 => ok2 (page - 4096 * (s + 1))
 | 2 => decide (256 ≤ page - 4096 * (s + 1) ∧ page - 4096 * (s + 1) < 4096)
 | _ => inI 4096 (page - 4096 * (s + 1))
def clI (i : Nat) (s page : Int) : Int := match i with
 | 1 => (page - 4096 * (s + 1) - 1) / 17
 | _ => 0
def plI (i : Nat) (s page : Int) : Int := match i with
 | 0 => page - (64 * s + 1)
 | 1 => (page - 4096 * (s + 1) - 1) % 17
 | _ => page - 4096 * (s + 1)
def kindF (i : Nat) : FuncId := match i with
 | 0 => 136
 | 1 => 138
 | 2 => 139
 | _ => 140
theorem k_all (i : Nat) (s page : Int) (hs : slotI s = true) (hp : inI 65536 page = true) (w : World) : Calls Tryz.prog (kindF i) #[.agg #[.int .i64 s], .int .i64 page, .int .i64 (page - 4096 * (s + 1))] w (SitePost w (okI i s page) (clI i s page) (plI i s page)) := by
 have hs' : 0 ≤ s ∧ s < 4 := by simpa [slotI] using hs
 have hp' : 0 ≤ page ∧ page < 65536 := by simpa [inI] using hp
 match i with
 | 0 => exact (k1 s page _ hs hp w).mono fun e w' ⟨h1, h2⟩ => ⟨_, _, h1, fun _ => ⟨rfl, rfl⟩, h2⟩
 | 1 => exact k2 s page _ (by omega) (by omega) w
 | 2 => exact (k3 s page _ w).mono fun e w' ⟨h1, h2⟩ => ⟨_, _, h1, fun _ => ⟨rfl, rfl⟩, h2⟩
 | _ + 3 => exact (k4 s page _ w).mono fun e w' ⟨h1, h2⟩ => ⟨_, _, h1, fun _ => ⟨rfl, rfl⟩, h2⟩
theorem k_enters (i : Nat) (args : Array Value) (w : World) : (callFunc (kindF i) args).run Tryz.prog w = .ok (.enter (kindF i) args) w := by
 match i with
 | 0 => exact enters_of Tryz.func136 (by kernel_rfl) rfl args w
 | 1 => exact enters_of Tryz.func138 (by kernel_rfl) rfl args w
 | 2 => exact enters_of Tryz.func139 (by kernel_rfl) rfl args w
 | _ + 3 => exact enters_of Tryz.func140 (by kernel_rfl) rfl args w
theorem kind_cells (i : Nat) (h : i < 4) : kindCells[2 * i]? = some (.int .i64 (i + 1)) ∧ kindCells[2 * i + 1]? = some (.func (.func (kindF i)) #[] #[]) := by
 match i, h with
 | 0, _ => exact ⟨rfl, rfl⟩
 | 1, _ => exact ⟨rfl, rfl⟩
 | 2, _ => exact ⟨rfl, rfl⟩
 | 3, _ => exact ⟨rfl, rfl⟩
end Go.Proofs.YtlpchcdalfkfcaaGreat


/-
 Package window: the first kind that fits, plainly.
-/
namespace Go.Proofs.YtlpchcdalfkfcaaGreat
open Go.RowKit

theorem set4 {W : World} {b : Nat} {x0 x1 x2 x3 : Value} {t : TypeId} (h : Blk W b #[x0, x1, x2, x3] t) (v0 v1 v2 v3 : Value) :
  Blk ((((W.setCell ⟨b, 0, none⟩ v0).setCell ⟨b, 1, none⟩ v1).setCell ⟨b, 2, none⟩ v2).setCell ⟨b, 3, none⟩ v3) b #[v0, v1, v2, v3] t := (((h.set 0 v0).set 1 v1).set 2 v2).set 3 v3
theorem below4 {B b : Nat} {w W : World} (h : Below B w W) (hb : B ≤ b) (v0 v1 v2 v3 : Value) :
  Below B w ((((W.setCell ⟨b, 0, none⟩ v0).setCell ⟨b, 1, none⟩ v1).setCell ⟨b, 2, none⟩ v2).setCell ⟨b, 3, none⟩ v3) :=
 (((h.setCell (p := ⟨b, 0, none⟩) hb v0).setCell (p := ⟨b, 1, none⟩) hb v1).setCell (p := ⟨b, 2, none⟩) hb v2).setCell (p := ⟨b, 3, none⟩) hb v3
/-- The first kind that fits from i on. -/
def firstK (s page : Int) : Nat → Nat → Option Nat
 | _, 0 => none
 | i, n + 1 => if okI i s page = true then some i else firstK s page (i + 1) n
theorem firstK_hit (s page : Int) : ∀ (n k i : Nat), k ≤ i → i < k + n → okI i s page = true → (∀ j, k ≤ j → j < i → okI j s page = false) → firstK s page k n = some i := by
 intro n
 induction n with
 | zero => intro k i h1 h2; omega
 | succ n ih =>
  intro k i h1 h2 hp hn
  unfold firstK
  by_cases e : k = i
  ·subst e; rw [if_pos hp]
  ·rw [if_neg (by rw [hn k (Nat.le_refl _) (by omega)]; decide)]
   exact ih (k + 1) i (by omega) (by omega) hp fun j hj => hn j (by omega)
theorem firstK_miss (s page : Int) : ∀ (n k : Nat), (∀ j, k ≤ j → j < k + n → okI j s page = false) → firstK s page k n = none := by
 intro n
 induction n with
 | zero => intro k _; rfl
 | succ n ih =>
  intro k h
  unfold firstK
  rw [if_neg (by rw [h k (Nat.le_refl _) (by omega)]; decide)]
  exact ih (k + 1) fun j h1 h2 => h j (by omega) (by omega)
def siteV (k s c p : Int) : Value := .agg #[.int .i64 k, .int .i64 s, .int .i64 c, .int .i64 p]
def firstV (s page : Int) : Value := match firstK s page 0 4 with
 | some i => .tuple #[siteV (i + 1) s (clI i s page) (plI i s page), .bool true]
 | none => .tuple #[siteV 0 0 0 0, .bool false]
/-- What a page is, as of slot s on. -/
def ofK (page : Int) : Nat → Nat → Value
 | _, 0 => siteV 0 0 0 0
 | s, n + 1 => match firstK s page 0 4 with
  | some i => siteV (i + 1) s (clI i s page) (plI i s page)
  | none => ofK page (s + 1) n
def ofV (page : Int) : Value := ofK page 0 4
theorem ofK_hit (page : Int) : ∀ (n k s i : Nat), k ≤ s → s < k + n → firstK s page 0 4 = some i → (∀ j : Nat, k ≤ j → j < s → firstK j page 0 4 = none) → ofK page k n = siteV (i + 1) s (clI i s page) (plI i s page) := by
 intro n
 induction n with
 | zero => intro k s i h1 h2; omega
 | succ n ih =>
  intro k s i h1 h2 hp hn
  unfold ofK
  by_cases e : k = s
  ·subst e; rw [hp]
  ·rw [hn k (Nat.le_refl _) (by omega)]
   exact ih (k + 1) s i (by omega) (by omega) hp fun j hj => hn j (by omega)
theorem ofK_miss (page : Int) : ∀ (n k : Nat), (∀ j : Nat, k ≤ j → j < k + n → firstK j page 0 4 = none) → ofK page k n = siteV 0 0 0 0 := by
 intro n
 induction n with
 | zero => intro k _; rfl
 | succ n ih =>
  intro k h
  unfold ofK
  rw [h k (Nat.le_refl _) (by omega)]
  exact ih (k + 1) fun j h1 h2 => h j (by omega) (by omega)
theorem firstK_1 {s page : Int} (h0 : okI 0 s page = false) (h : okI 1 s page = true) : firstK s page 0 4 = some 1 := firstK_hit s page 4 0 1 (by omega) (by omega) h fun j h1 h2 => by
 obtain rfl : j = 0 := by omega
 exact h0
theorem firstK_n {s page : Int} (h0 : okI 0 s page = false) (h1 : okI 1 s page = false) (h2 : okI 2 s page = false) (h3 : okI 3 s page = false) : firstK s page 0 4 = none := firstK_miss s page 4 0 fun j _ hj => by
 match j, hj with
 | 0, _ => exact h0
 | 1, _ => exact h1
 | 2, _ => exact h2
 | 3, _ => exact h3
theorem ofK_site (page : Int) : ∀ n s, ∃ q r c p, ofK page s n = siteV q r c p := by
 intro n
 induction n with
 | zero => exact fun s => ⟨_, _, _, _, rfl⟩
 | succ n ih =>
  intro s
  unfold ofK
  split
  ·exact ⟨_, _, _, _, rfl⟩
  ·exact ih _
theorem ofV_site (page : Int) : ∃ q r c p, ofV page = siteV q r c p := ofK_site page 4 0
end Go.Proofs.YtlpchcdalfkfcaaGreat


/-
 Package window: what a page is, plainly.
-/
namespace Go.Proofs.YtlpchcdalfkfcaaGreat
open Go.RowKit

theorem firstK_some (s page : Int) (i : Nat) : ∀ (n k : Nat), firstK s page k n = some i → k ≤ i ∧ i < k + n ∧ okI i s page = true := by
 intro n
 induction n with
 | zero => intro k h; cases h
 | succ n ih =>
  intro k h
  unfold firstK at h
  by_cases e : okI k s page = true
  ·rw [if_pos e] at h; cases h; exact ⟨by omega, by omega, e⟩
  ·rw [if_neg e] at h; have := ih (k + 1) h; exact ⟨by omega, by omega, this.2.2⟩
theorem ofK_cases (page : Int) : ∀ (n s : Nat), ofK page s n = siteV 0 0 0 0 ∨ ∃ r i : Nat, s ≤ r ∧ r < s + n ∧ i < 4 ∧ okI i r page = true ∧ ofK page s n = siteV (i + 1) r (clI i r page) (plI i r page) := by
 intro n
 induction n with
 | zero => intro s; exact .inl rfl
 | succ n ih =>
  intro s
  unfold ofK
  cases h : firstK s page 0 4 with
  | none =>
   rcases ih (s + 1) with h | ⟨r, i, h1, h2, h3⟩
   ·exact .inl h
   ·exact .inr ⟨r, i, by omega, by omega, h3⟩
  | some i =>
   have := firstK_some s page i 4 0 h
   exact .inr ⟨s, i, by omega, by omega, by omega, this.2.2, rfl⟩
theorem ofV_cases (page : Int) : ofV page = siteV 0 0 0 0 ∨ ∃ r i : Nat, r < 4 ∧ i < 4 ∧ okI i r page = true ∧ ofV page = siteV (i + 1) r (clI i r page) (plI i r page) := by
 rcases ofK_cases page 4 0 with h | ⟨r, i, _, h1, h2⟩
 ·exact .inl h
 ·exact .inr ⟨r, i, by omega, h2⟩
theorem siteV_inj {a b c d a' b' c' d' : Int} (h : siteV a b c d = siteV a' b' c' d') : a = a' ∧ b = b' ∧ c = c' ∧ d = d' := by
 simpa [siteV] using h
end Go.Proofs.YtlpchcdalfkfcaaGreat

