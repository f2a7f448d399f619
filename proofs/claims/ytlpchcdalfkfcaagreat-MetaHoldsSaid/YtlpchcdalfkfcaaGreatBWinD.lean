/-
  Package window: one kind asked, Of's function.
-/
import Derived.Test.YtlpchcdalfkfcaaGreatBWinA
import Derived.BigRegion
import Derived.Laws.EntriesVeiled
namespace Go.Proofs.YtlpchcdalfkfcaaGreat
open Go.RowKit
set_option maxHeartbeats 4000000

/-- What Of's function tells: kind and slot stand in any case. -/
def AskPost (w : World) (k s : Int) (ok : Bool) (c p : Int) (e : Ending) (w' : World) : Prop := ∃ c' p' : Int, e = .returned (.tuple #[.agg #[.int .i64 k, .int .i64 s, .int .i64 c', .int .i64 p'], .bool ok]) ∧ (ok = true → c' = c ∧ p' = p) ∧ Below w.heap.size w w'
def Old (w0 W : World) : Prop := Below w0.heap.size w0 W
theorem Old.cell {w0 W : World} {k i : Nat} {v : Value} (h : Old w0 W) (hc : w0.cell? ⟨k, i, none⟩ = some v) : W.cell? ⟨k, i, none⟩ = some v := (Below.cell h (p := ⟨k, i, none⟩) (World.block_lt_of_cell? w0 _ hc)).trans hc
theorem Old.step {w0 W W1 : World} {n : Nat} (hb : Below n W W1) (hn : n = W.heap.size) (h : Old w0 W) : Old w0 W1 := below_step hb hn (Nat.le_refl _) h
theorem Old.made {w0 W : World} (o : Obj) (h : Old w0 W) : Old w0 (W.alloc o) := below_made (Nat.le_refl _) o h
theorem Old.remade {w0 W : World} {o1 : Obj} (o2 : Obj) (hz : w0.heap.size ≤ W.heap.size) (h : Old w0 (W.alloc o1)) : Old w0 (W.alloc o2) := by
  have hW : Old w0 W := ⟨h.os, h.tape, h.output, hz, fun k hk => by
    have h1 := h.block k hk
    have h2 := ((Below.refl _ W).alloc (Nat.le_refl _) o1).block k (Nat.lt_of_lt_of_le hk hz)
    exact h2.symm.trans h1⟩
  exact hW.made o2
theorem alloc_then {W w1 : World} {cs : Array Value} {t : TypeId} {n : Nat} (hb : Below n (W.alloc (.cells cs t)) w1) (hn : n = (W.alloc (.cells cs t)).heap.size) : Blk w1 W.heap.size cs t := by
  subst hn; exact (Blk.new W cs t).below hb (by simp)
theorem alloc_then' {W w1 : World} {cs : Array Value} {t : TypeId} {n : Nat} (hb : Below n (W.alloc (.cells cs t)).drew w1) (hn : n = (W.alloc (.cells cs t)).drew.heap.size) : Blk w1 W.heap.size cs t := by
  subst hn; exact ((Blk.new W cs t).drewN 1).below hb (by show W.heap.size < (W.alloc (.cells cs t)).heap.size; simp)
theorem blk_step {W w1 : World} {cs : Array Value} {t : TypeId} {n b : Nat} (hb : Below n W w1) (hn : n = W.heap.size) (h : Blk W b cs t) : Blk w1 b cs t := by subst hn; exact h.below hb h.lt
theorem Old.set {w0 W : World} {b : Nat} (i : Nat) (v : Value) (hz : w0.heap.size ≤ b) (h : Old w0 W) : Old w0 (W.setCell ⟨b, i, none⟩ v) := Below.setCell h (p := ⟨b, i, none⟩) hz v
theorem blk_step4 {w1 : World} {b : Nat} (h : Blk w1 b #[Value.int .i64 0, Value.int .i64 0, Value.int .i64 0, Value.int .i64 0] 85 ∨ Blk w1 b #[Value.int .i64 0, Value.int .i64 0, Value.int .i64 0, Value.int .i64 0] 85) : Blk w1 b #[Value.int .i64 0, Value.int .i64 0, Value.int .i64 0, Value.int .i64 0] 85 := h.elim id id
theorem Of1_ok (F : FuncId) (k s page : Int) (ok : Bool) (c p : Int) (pb gb : Nat) (hs : slotI s = true) (hp : inI 65536 page = true)
    (eg : ∀ args w, (callFunc F args).run Tryz.prog w = .ok (.enter F args) w)
    (hK : ∀ W, Calls Tryz.prog F #[.agg #[.int .i64 s], .int .i64 page, .int .i64 (page - 4096 * (s + 1))] W (SitePost W ok c p))
    (w : World) (hpb : w.cell? ⟨pb, 0, none⟩ = some (.int .i64 s)) (hgb : w.cell? ⟨gb, 0, none⟩ = some (.int .i64 page)) :
    Calls Tryz.prog 76 #[.agg #[.int .i64 k, .func (.func F) #[] #[]], .pointer (some ⟨pb, 0, none⟩), .pointer (some ⟨gb, 0, none⟩)] w (AskPost w k s ok c p) := by
  have hs' : 0 ≤ s ∧ s < 4 := by simpa [slotI] using hs
  have hp' : 0 ≤ page ∧ page < 65536 := by simpa [inI] using hp
  have hsub : IntKind.i64.wrap (page - 4096 * (s + 1)) = page - 4096 * (s + 1) := IntWalk.i64_in _ (by omega)
  have HK := Lib.hid hK
  clear hK
  go_enter Tryz.func76, Tryz.ntmps76
  go_wp2_with fail
  obtain ⟨w0, hw0⟩ : ∃ w0, (w.alloc (Obj.cells #[Value.int .i64 k, .func (.func F) #[] #[]] 133)).alloc (Obj.cells #[Value.int .i64 0, Value.int .i64 0, Value.int .i64 0, Value.int .i64 0] 85) = w0 := ⟨_, rfl⟩
  have hX : Blk w0 w.heap.size #[Value.int .i64 k, .func (.func F) #[] #[]] 133 := by rw [← hw0]; exact (Blk.new w _ _).alloc _
  have hY : Blk w0 (w.heap.size + 1) #[Value.int .i64 0, Value.int .i64 0, Value.int .i64 0, Value.int .i64 0] 85 := by rw [← hw0]; exact Blk.newAt _ _ _ (by simp)
  have hw : Below w.heap.size w w0 := by rw [← hw0]; exact ((Below.refl _ w).alloc (Nat.le_refl _) _).alloc (by simp) _
  have x0 : w0.cell? ⟨w.heap.size, 0, none⟩ = some (.int .i64 k) := hX.cell 0 rfl
  have x1 : w0.cell? ⟨w.heap.size, 1, none⟩ = some (.func (.func F) #[] #[]) := hX.cell 1 rfl
  have x2 : w0.cell? ⟨pb, 0, none⟩ = some (.int .i64 s) := (hw.cell (p := ⟨pb, 0, none⟩) (World.block_lt_of_cell? w _ hpb)).trans hpb
  have x3 : w0.cell? ⟨gb, 0, none⟩ = some (.int .i64 page) := (hw.cell (p := ⟨gb, 0, none⟩) (World.block_lt_of_cell? w _ hgb)).trans hgb
  rw [hw0]
  have hall : ∀ W, Old w0 W → W.cell? ⟨w.heap.size, 0, none⟩ = some (.int .i64 k) ∧ Old w0 W ∧ W.cell? ⟨w.heap.size, 1, none⟩ = some (.func (.func F) #[] #[]) ∧ W.cell? ⟨pb, 0, none⟩ = some (.int .i64 s) ∧ W.cell? ⟨gb, 0, none⟩ = some (.int .i64 page) :=
    fun W h => ⟨h.cell x0, h, h.cell x1, h.cell x2, h.cell x3⟩
  have h0 : Old w0 w0.drew := (Below.refl _ w0).drew
  go_region_held3 (fun W => W.cell? ⟨w.heap.size, 0, none⟩ = some (.int .i64 k) ∧ Old w0 W ∧ W.cell? ⟨w.heap.size, 1, none⟩ = some (.func (.func F) #[] #[]) ∧ W.cell? ⟨pb, 0, none⟩ = some (.int .i64 s) ∧ W.cell? ⟨gb, 0, none⟩ = some (.int .i64 page))
    (first
    | exact hall _ h0
    | exact hall _ (Old.step hb rfl (And.left (And.right (by assumption))))
    | exact hall _ (Old.made _ (And.left (And.right (by assumption))))
    | exact hall _ (Old.remade _ (by omega) (And.left (And.right (by assumption))))
    | exact hall _ (Old.set _ _ (by first | omega | (simp; omega)) (Old.set _ _ (by first | omega | (simp; omega)) (Old.set _ _ (by first | omega | (simp; omega)) (Old.set _ _ (by first | omega | (simp; omega)) (And.left (And.right (by assumption))))))))
    (first
      | (go_at_call 77; refine (base_calls s hs _).mono ?_; rintro e w1 ⟨rfl, hb⟩; have hz : w0.heap.size ≤ w1.heap.size := (by first | exact hb.size | (have := hb.size; (try simp at this); omega)); try (first | have hN := alloc_then hb rfl | have hN := alloc_then' hb rfl))
      | (go_simp; refine (HK.out _).mono ?_; rintro e w1 ⟨c', p', rfl, hcp, hb⟩; have hz : w0.heap.size ≤ w1.heap.size := (by have := hb.size; (try simp at this); omega); try (have hN := blk_step4 (by first | exact .inl (alloc_then hb rfl) | exact .inr (blk_step hb rfl (by assumption))); have c0 := hN.cell 0 rfl; have c1 := hN.cell 1 rfl; have c2 := hN.cell 2 rfl; have c3 := hN.cell 3 rfl; have f0 := hN.frozen 0; have f1 := hN.frozen 1; have f2 := hN.frozen 2; have f3 := hN.frozen 3)))
  all_goals (
    rename_i hHeld
    have hO := hHeld.2.1
    clear hHeld hall h0
    first
      | (have hB : Blk ((((w1.setCell ⟨w0.heap.size, 0, none⟩ (.int .i64 0)).setCell ⟨w0.heap.size, 1, none⟩ (.int .i64 0)).setCell ⟨w0.heap.size, 2, none⟩ (.int .i64 c')).setCell ⟨w0.heap.size, 3, none⟩ (.int .i64 p')) w0.heap.size #[Value.int .i64 0, Value.int .i64 0, Value.int .i64 c', Value.int .i64 p'] 85 := (((hN.set 0 _).set 1 _).set 2 _).set 3 _
         generalize hWe : ((((w1.setCell ⟨w0.heap.size, 0, none⟩ (.int .i64 0)).setCell ⟨w0.heap.size, 1, none⟩ (.int .i64 0)).setCell ⟨w0.heap.size, 2, none⟩ (.int .i64 c')).setCell ⟨w0.heap.size, 3, none⟩ (.int .i64 p')) = W at hO hB ⊢
         obtain ⟨b, hb1⟩ : ∃ b, b = w0.heap.size := ⟨_, rfl⟩
         have hbw : w0.heap.size ≤ b := by omega
         rw [← hb1] at hB ⊢
         clear hb1)
      | (rename_i wx hbx hzx
         have hB : Blk ((((w1.setCell ⟨wx.heap.size, 0, none⟩ (.int .i64 0)).setCell ⟨wx.heap.size, 1, none⟩ (.int .i64 0)).setCell ⟨wx.heap.size, 2, none⟩ (.int .i64 c')).setCell ⟨wx.heap.size, 3, none⟩ (.int .i64 p')) wx.heap.size #[Value.int .i64 0, Value.int .i64 0, Value.int .i64 c', Value.int .i64 p'] 85 := (((hN.set 0 _).set 1 _).set 2 _).set 3 _
         generalize hWe : ((((w1.setCell ⟨wx.heap.size, 0, none⟩ (.int .i64 0)).setCell ⟨wx.heap.size, 1, none⟩ (.int .i64 0)).setCell ⟨wx.heap.size, 2, none⟩ (.int .i64 c')).setCell ⟨wx.heap.size, 3, none⟩ (.int .i64 p')) = W at hO hB ⊢
         obtain ⟨b, hb1⟩ : ∃ b, b = wx.heap.size := ⟨_, rfl⟩
         have hbw : w0.heap.size ≤ b := by omega
         rw [← hb1] at hB ⊢
         clear hb1)
      | (have hbw : w0.heap.size ≤ w1.heap.size := hz
         have hB := Blk.new w1 #[Value.int .i64 0, Value.int .i64 0, Value.int .i64 c', Value.int .i64 p'] 85
         generalize hWe : w1.alloc (Obj.cells #[Value.int .i64 0, Value.int .i64 0, Value.int .i64 c', Value.int .i64 p'] 85) = W at hO hB ⊢
         generalize hbe : w1.heap.size = b at hbw hB ⊢)
    try clear c0 c1 c2 c3 f0 f1 f2 f3
    have hz1 : w.heap.size + 2 ≤ w0.heap.size := by rw [← hw0]; simp
    have hpl : pb < w.heap.size := World.block_lt_of_cell? w _ hpb
    have y0 := hO.cell x0
    have y1 := hO.cell x2
    have b0 := hB.cell 0 rfl
    have b1 := hB.cell 1 rfl
    have b2 := hB.cell 2 rfl
    have b3 := hB.cell 3 rfl
    have f0 := hB.frozen 0
    have f1 := hB.frozen 1
    go_wp2_with fail
    go_region
    have hB2 : Blk (((W.setCell ⟨b, 0, none⟩ (.int .i64 k)).setCell ⟨b, 1, none⟩ (.int .i64 s)).drew) b #[Value.int .i64 k, .int .i64 s, .int .i64 c', .int .i64 p'] 85 := (((hB.set 0 (.int .i64 k)).set 1 (.int .i64 s)).drewN 1)
    have hY2 : Blk (((W.setCell ⟨b, 0, none⟩ (.int .i64 k)).setCell ⟨b, 1, none⟩ (.int .i64 s)).drew) (w.heap.size + 1) #[Value.int .i64 0, Value.int .i64 0, Value.int .i64 0, Value.int .i64 0] 85 := ((((hY.below hO hY.lt).setOther ⟨b, 0, none⟩ (.int .i64 k) (by simp; omega)).setOther ⟨b, 1, none⟩ (.int .i64 s) (by simp; omega)).drewN 1)
    have hO2 : Old w0 (((W.setCell ⟨b, 0, none⟩ (.int .i64 k)).setCell ⟨b, 1, none⟩ (.int .i64 s)).drew) := Below.drew ((hO.set 0 _ hbw).set 1 _ hbw)
    generalize hW2 : ((W.setCell ⟨b, 0, none⟩ (.int .i64 k)).setCell ⟨b, 1, none⟩ (.int .i64 s)).drew = W2 at *
    clear hW2 b0 b1 b2 b3 f0 f1 y0 y1 hB hO x0 x1 x2 x3 hX hpb hgb
    have e0 : W2.cell? ⟨b, 0, none⟩ = some (.int .i64 k) := hB2.cell 0 rfl
    have e1 : W2.cell? ⟨b, 1, none⟩ = some (.int .i64 s) := hB2.cell 1 rfl
    have e2 : W2.cell? ⟨b, 2, none⟩ = some (.int .i64 c') := hB2.cell 2 rfl
    have e3 : W2.cell? ⟨b, 3, none⟩ = some (.int .i64 p') := hB2.cell 3 rfl
    have g0 : W2.cell? ⟨w.heap.size + 1, 0, none⟩ = some (.int .i64 0) := hY2.cell 0 rfl
    have g1 : W2.cell? ⟨w.heap.size + 1, 1, none⟩ = some (.int .i64 0) := hY2.cell 1 rfl
    have g2 : W2.cell? ⟨w.heap.size + 1, 2, none⟩ = some (.int .i64 0) := hY2.cell 2 rfl
    have g3 : W2.cell? ⟨w.heap.size + 1, 3, none⟩ = some (.int .i64 0) := hY2.cell 3 rfl
    have f0 := hY2.frozen 0
    have f1 := hY2.frozen 1
    have f2 := hY2.frozen 2
    have f3 := hY2.frozen 3
    go_wp2_with fail
    have hYf := (((hY2.set 0 (.int .i64 k)).set 1 (.int .i64 s)).set 2 (.int .i64 c')).set 3 (.int .i64 p')
    have hBel : Below w.heap.size w ((((W2.setCell ⟨w.heap.size + 1, 0, none⟩ (.int .i64 k)).setCell ⟨w.heap.size + 1, 1, none⟩ (.int .i64 s)).setCell ⟨w.heap.size + 1, 2, none⟩ (.int .i64 c')).setCell ⟨w.heap.size + 1, 3, none⟩ (.int .i64 p')) :=
      ((((hw.trans (Below.mono hO2 (by omega))).setCell (p := ⟨w.heap.size + 1, 0, none⟩) (by simp) _).setCell (p := ⟨w.heap.size + 1, 1, none⟩) (by simp) _).setCell (p := ⟨w.heap.size + 1, 2, none⟩) (by simp) _).setCell (p := ⟨w.heap.size + 1, 3, none⟩) (by simp) _
    refine post_blk4 (x0 := .int .i64 k) (x1 := .int .i64 s) (x2 := .int .i64 c') (x3 := .int .i64 p') hYf ?_
    intro W' hW d0 d1 d2 d3
    rw [← hW] at hBel
    refine bodyPost_ret (v := .tuple #[.agg #[.int .i64 k, .int .i64 s, .int .i64 c', .int .i64 p'], .bool ok]) ?_ rfl ⟨c', p', rfl, hcp, hBel⟩
    simp [results, Tryz.results76, go_sem, d0, d1, d2, d3])
end Go.Proofs.YtlpchcdalfkfcaaGreat


/-
 Package window: the first kind that fits.
-/
namespace Go.Proofs.YtlpchcdalfkfcaaGreat
open Go.RowKit
set_option maxHeartbeats 1000000

theorem ask (i : Nat) (s page : Int) (pb gb : Nat) (hs : slotI s = true) (hp : inI 65536 page = true) (w : World) (hpb : w.cell? ⟨pb, 0, none⟩ = some (.int .i64 s)) (hgb : w.cell? ⟨gb, 0, none⟩ = some (.int .i64 page)) :
  Calls Tryz.prog 76 #[.agg #[.int .i64 (i + 1), .func (.func (kindF i)) #[] #[]], .pointer (some ⟨pb, 0, none⟩), .pointer (some ⟨gb, 0, none⟩)] w (AskPost w (i + 1) s (okI i s page) (clI i s page) (plI i s page)) :=
 Of1_ok (kindF i) (i + 1) s page _ _ _ pb gb hs hp (k_enters i) (fun W => k_all i s page hs hp W) w hpb hgb
theorem first_okW (s page : Int) (pb gb kb : Nat) (hs : slotI s = true) (hp : inI 65536 page = true) (w : World) (hpb : w.cell? ⟨pb, 0, none⟩ = some (.int .i64 s)) (hgb : w.cell? ⟨gb, 0, none⟩ = some (.int .i64 page))
  (hkb : Blk w kb kindCells 133) :
  Calls Tryz.prog 74 #[.slice (some ⟨kb, 0, none⟩) 4 4, .func (.func 76) #[] #[.pointer (some ⟨pb, 0, none⟩), .pointer (some ⟨gb, 0, none⟩)]] w fun e w' => e = .returned (firstV s page) ∧ Below w.heap.size w w' := by
 have eg := enters_of (P := Tryz.prog) Tryz.func76 (by kernel_rfl) rfl
 have lpb := World.block_lt_of_cell? w _ hpb
 have lgb := World.block_lt_of_cell? w _ hgb
 have lkb := hkb.lt
 go_enter Tryz.func74, Tryz.ntmps74
 go_wp2_with fail
 go_loopw [5, 11] (fun _ i wr => ∃ k : Nat, k ≤ 4 ∧ i = .int .i64 k ∧ (∀ j, j < k → okI j s page = false) ∧ Below w.heap.size w wr ∧ w.heap.size < wr.heap.size ∧ ∃ x0 x1 x2 x3, Blk wr w.heap.size #[x0, x1, x2, x3] 85) (fun _ i _ => 4 - (intOf i).toNat)
 case atStart => exact ⟨0, by omega, rfl, fun j hj => by omega, (Below.refl _ w).alloc (Nat.le_refl _) _, by simp, _, _, _, _, Blk.new w _ _⟩
 case round =>
  obtain ⟨k, hk, rfl, hn, hb, hz, x0, x1, x2, x3, hB⟩ := hrel
  have HN := Lib.hid hn
  clear hn
  by_cases hlt : k < 4
  ·have hkc := hkb.below hb lkb
   obtain ⟨q0, q1⟩ := kind_cells k hlt
   have c0 : wr.cell? ⟨kb, k * 2, none⟩ = some (.int .i64 (k + 1)) := by rw [Nat.mul_comm]; exact hkc.cell _ q0
   have c1 : wr.cell? ⟨kb, k * 2 + 1, none⟩ = some (.func (.func (kindF k)) #[] #[]) := by rw [Nat.mul_comm]; exact hkc.cell _ q1
   clear q0 q1
   have p0 : wr.cell? ⟨pb, 0, none⟩ = some (.int .i64 s) := (hb.cell (p := ⟨pb, 0, none⟩) lpb).trans hpb
   have p1 : wr.cell? ⟨gb, 0, none⟩ = some (.int .i64 page) := (hb.cell (p := ⟨gb, 0, none⟩) lgb).trans hgb
   have hask := fun W (h0 : W.cell? ⟨pb, 0, none⟩ = some (.int .i64 s)) (h1 : W.cell? ⟨gb, 0, none⟩ = some (.int .i64 page)) => ask k s page pb gb hs hp W h0 h1
   generalize kindF k = F at *
   have HA := Lib.hid hask
   clear hask
   have hbn := hb.alloc (Nat.le_of_lt hz) (.cells #[.int .i64 (k + 1), .func (.func F) #[] #[]] 133)
   have hBn := hB.alloc (.cells #[.int .i64 (k + 1), .func (.func F) #[] #[]] 133)
   have hzn : w.heap.size < (wr.alloc (.cells #[.int .i64 (k + 1), .func (.func F) #[] #[]] 133)).heap.size := by simp; omega
   have n0 : (wr.alloc (.cells #[.int .i64 (k + 1), .func (.func F) #[] #[]] 133)).cell? ⟨pb, 0, none⟩ = some (.int .i64 s) := (hbn.cell (p := ⟨pb, 0, none⟩) lpb).trans hpb
   have n1 : (wr.alloc (.cells #[.int .i64 (k + 1), .func (.func F) #[] #[]] 133)).cell? ⟨gb, 0, none⟩ = some (.int .i64 page) := (hbn.cell (p := ⟨gb, 0, none⟩) lgb).trans hgb
   have HC := Lib.hid (HA.out _ n0 n1)
   clear HA
   go_wp2_with fail
   refine (HC.out).mono ?_; rintro e w1 ⟨c', p', rfl, hcp, hb1⟩
   have hB1 := hBn.below hb1 hzn
   have hbw := hbn.trans (hb1.mono (Nat.le_of_lt hzn))
   have hz1 := hb1.size
   have hzw : w.heap.size < w1.heap.size := by omega
   clear c0 c1 n0 n1 p0 p1 hkc hB hBn hbn hb hb1 HC
   have b0 := hB1.cell 0 rfl
   have b1 := hB1.cell 1 rfl
   have b2 := hB1.cell 2 rfl
   have b3 := hB1.cell 3 rfl
   have f0 := hB1.frozen 0
   have f1 := hB1.frozen 1
   have f2 := hB1.frozen 2
   have f3 := hB1.frozen 3
   have HBF := Lib.hid (set4 hB1 (.int .i64 (k + 1)) (.int .i64 s) (.int .i64 c') (.int .i64 p'))
   have HbF := Lib.hid (below4 hbw (Nat.le_refl _) (.int .i64 (k + 1)) (.int .i64 s) (.int .i64 c') (.int .i64 p'))
   by_cases ho : okI k s page = true
   ·rw [ho]
    obtain ⟨rfl, rfl⟩ := hcp ho
    have hF := Lib.hid (firstK_hit s page 4 0 k (by omega) (by omega) ho fun j _ hj => HN.out j hj)
    clear hcp ho
    go_wp2_with fail
    have hbW := below4 HbF.out (Nat.le_refl _) (.int .i64 (k + 1)) (.int .i64 s) (.int .i64 (clI k s page)) (.int .i64 (plI k s page))
    refine post_blk4 (set4 HBF.out (.int .i64 (k + 1)) (.int .i64 s) (.int .i64 (clI k s page)) (.int .i64 (plI k s page))) ?_
    intro W' hW d0 d1 d2 d3
    rw [← hW] at hbW
    refine bodyPost_ret (v := .tuple #[siteV (k + 1) s (clI k s page) (plI k s page), .bool true]) ?_ rfl ⟨by unfold firstV; rw [hF.out], hbW⟩
    simp [results, Tryz.results74, go_sem, siteV, d0, d1, d2, d3]
   ·have ho' : okI k s page = false := by simpa using ho
    have HO := Lib.hid ho'
    rw [ho']
    clear hcp ho ho'
    go_wp2_with fail
    go_roundw
    case rel => exact ⟨k + 1, by omega, by go_num, (fun j hj => by rcases Nat.lt_or_ge j k with h | h; exact HN.out j h; rw [show j = k by omega]; exact HO.out), HbF.out, by simp; omega, _, _, _, _, HBF.out⟩
    case measure => simp [intOf]; omega
  ·obtain rfl : k = 4 := by omega
   have hF : firstV s page = .tuple #[siteV 0 0 0 0, .bool false] := by unfold firstV; rw [firstK_miss s page 4 0 fun j _ hj => HN.out j (by omega)]
   have b0 := hB.cell 0 rfl
   have b1 := hB.cell 1 rfl
   have b2 := hB.cell 2 rfl
   have b3 := hB.cell 3 rfl
   have f0 := hB.frozen 0
   have f1 := hB.frozen 1
   have f2 := hB.frozen 2
   have f3 := hB.frozen 3
   have HBF := Lib.hid (set4 hB (.int .i64 0) (.int .i64 0) (.int .i64 0) (.int .i64 0))
   have HbF := Lib.hid (below4 hb (Nat.le_refl _) (.int .i64 0) (.int .i64 0) (.int .i64 0) (.int .i64 0))
   clear hB hb HN
   go_wp2_with fail
   have hbW := HbF.out.alloc (by simp; omega) (.cells #[.int .i64 0, .int .i64 0, .int .i64 0, .int .i64 0] 85)
   refine post_blk4 (HBF.out.alloc (.cells #[.int .i64 0, .int .i64 0, .int .i64 0, .int .i64 0] 85)) ?_
   intro W' hW d0 d1 d2 d3
   rw [← hW] at hbW
   refine bodyPost_ret (v := .tuple #[siteV 0 0 0 0, .bool false]) ?_ rfl ⟨by rw [hF], hbW⟩
   simp [results, Tryz.results74, go_sem, siteV, d0, d1, d2, d3]
end Go.Proofs.YtlpchcdalfkfcaaGreat


/-
 Package window: the places, one by one.
-/
namespace Go.Proofs.YtlpchcdalfkfcaaGreat
open Go.RowKit
attribute [local go_sem] Oper.semAt_some
set_option maxHeartbeats 1000000

def slotsI : List Int := [0, 1, 2, 3]
theorem slotsI_get (k : Nat) (h : k < slotsI.length) : slotsI[k] = (k : Int) := by
 have h' : k < 4 := h
 match k, h' with
 | 0, _ => rfl
 | 1, _ => rfl
 | 2, _ => rfl
 | 3, _ => rfl
theorem places_calls (w : World) : Calls Tryz.prog 73 #[] w fun e w' => e = .returned (.func (.func 135) #[] #[]) ∧ w = w' := by
 go_enter Tryz.func73, Tryz.ntmps73
 go_wp2
 go_ret
 exact ⟨rfl, rfl⟩
theorem places_iter : IterK Tryz.prog 135 #[] (fun s : Int => #[.agg #[.int .i64 s]]) slotsI (fun _ => True) := by
 intro L J Jx W hJ hJx hA hY h0
 refine calls_in Tryz.func135 rfl ?_; simp only [Tryz.ntmps135, List.size_toArray, List.length_cons, List.length_nil, Nat.reduceAdd, Nat.reduceSub, Array.replicate_succ, Array.replicate_zero, List.push_toArray, List.append_toArray, List.nil_append, List.cons_append]
 gi_wp2
 gi_loopw [3] (fun i wr => ∃ k : Nat, k ≤ 4 ∧ i = .int .i64 k ∧ J (slotsI.take k) wr ∧ W.heap.size ≤ wr.heap.size) (fun i _ => 4 - (intOf i).toNat)
 case atStart => exact ⟨0, by omega, rfl, by simpa using h0, Nat.le_refl _⟩
 case round =>
  obtain ⟨k, hk, rfl, hJk, hsz⟩ := hrel
  by_cases hlt : k < 4
  ·have hl : k < slotsI.length := hlt
   have hsp := Lib.hid (split_at _ k hl)
   have htk := Lib.hid (take_next _ k hl)
   obtain ⟨fn, tmps, assign, body, hy, hR⟩ := hY _ _ _ wr hsp.out hJk hsz
   rw [slotsI_get] at hy
   clear hY
   gi_wp2_with fail
   refine (hR _).mono ?_; rintro e W3 (⟨rfl, hJ3, hs3⟩ | ⟨rfl, hJx3, hs3⟩)
   ·gi_wp2
    go_roundw
    case rel => exact ⟨k + 1, by omega, by go_num, by rw [htk.out]; exact hJ3, by omega⟩
    case measure => simp [intOf]; omega
   ·gi_wp2
    refine bodyPost_ret (results_none rfl _ _ _) rfl ?_
    exact ⟨⟨_, rfl⟩, .inr hJx3⟩
  ·obtain rfl : k = 4 := by omega
   gi_wp2
   go_end0
   exact ⟨⟨_, rfl⟩, .inl (by rw [List.take_of_length_le (by decide)] at hJk; exact hJk)⟩
end Go.Proofs.YtlpchcdalfkfcaaGreat


/-
 Package pinfoldref10: Of.
-/
namespace Go.Proofs.YtlpchcdalfkfcaaGreat
open Go.RowKit
set_option maxHeartbeats 1000000

theorem cells4 {W : World} {b : Nat} {x0 x1 x2 x3 : Value} {t : TypeId} (h : Blk W b #[x0, x1, x2, x3] t) :
  W.cell? ⟨b, 0, none⟩ = some x0 ∧ W.cell? ⟨b, 1, none⟩ = some x1 ∧ W.cell? ⟨b, 2, none⟩ = some x2 ∧ W.cell? ⟨b, 3, none⟩ = some x3 := ⟨h.cell 0 rfl, h.cell 1 rfl, h.cell 2 rfl, h.cell 3 rfl⟩
end Go.Proofs.YtlpchcdalfkfcaaGreat

