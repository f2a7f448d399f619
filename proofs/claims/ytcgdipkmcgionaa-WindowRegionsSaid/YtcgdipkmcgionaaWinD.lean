/-
  Package window: one kind asked, Of's function.
-/
import Derived.Test.YtcgdipkmcgionaaWinC
import Derived.BigRegion
namespace Go.Proofs.Ytcgdipkmcgionaa
open Go.RowKit
set_option maxHeartbeats 4000000

/-- What Of's function tells: kind and slot stand in any case. -/
def AskPost (w : World) (k s : Int) (ok : Bool) (c p : Int) (e : Ending) (w' : World) : Prop := ∃ c' p' : Int, e = .returned (.tuple #[.agg #[.int .i64 k, .int .i64 s, .int .i64 c', .int .i64 p'], .bool ok]) ∧ (ok = true → c' = c ∧ p' = p) ∧ Below w.heap.size w w'
def Old (w0 W : World) : Prop := Below w0.heap.size w0 W
theorem Old.cell {w0 W : World} {k i : Nat} {v : Value} (h : Old w0 W) (hc : w0.cell? ⟨k, i, none⟩ = some v) : W.cell? ⟨k, i, none⟩ = some v := (Below.cell h (p := ⟨k, i, none⟩) (World.block_lt_of_cell? w0 _ hc)).trans hc
theorem Old.step {w0 W W1 : World} {n : Nat} (hb : Below n W W1) (hn : n = W.heap.size) (h : Old w0 W) : Old w0 W1 := below_step hb hn (Nat.le_refl _) h
theorem Old.made {w0 W : World} (o : Obj) (h : Old w0 W) : Old w0 (W.alloc o) := below_made (Nat.le_refl _) o h
theorem Old.remade {w0 W : World} {o1 : Obj} (o2 : Obj) (hz : w0.heap.size ≤ W.heap.size) (h : Old w0 (W.alloc o1)) : Old w0 (W.alloc o2) := by
  have hW : Old w0 W := ⟨h.os, h.tape, h.output, hz, fun k hk => by
    have h1 := h.block k hk
    have h2 := ((Below.refl _ W).alloc (Nat.le_refl _) o1).block k (Nat.lt_of_lt_of_le hk hz)
    exact h2.symm.trans h1⟩
  exact hW.made o2
theorem alloc_then {W w1 : World} {cs : Array Value} {t : TypeId} {n : Nat} (hb : Below n (W.alloc (.cells cs t)) w1) (hn : n = (W.alloc (.cells cs t)).heap.size) : Blk w1 W.heap.size cs t := by
  subst hn; exact (Blk.new W cs t).below hb (by simp)
theorem alloc_then' {W w1 : World} {cs : Array Value} {t : TypeId} {n : Nat} (hb : Below n (W.alloc (.cells cs t)).drew w1) (hn : n = (W.alloc (.cells cs t)).drew.heap.size) : Blk w1 W.heap.size cs t := by
  subst hn; exact ((Blk.new W cs t).drewN 1).below hb (by show W.heap.size < (W.alloc (.cells cs t)).heap.size; simp)
theorem blk_step {W w1 : World} {cs : Array Value} {t : TypeId} {n b : Nat} (hb : Below n W w1) (hn : n = W.heap.size) (h : Blk W b cs t) : Blk w1 b cs t := by subst hn; exact h.below hb h.lt
theorem Old.set {w0 W : World} {b : Nat} (i : Nat) (v : Value) (hz : w0.heap.size ≤ b) (h : Old w0 W) : Old w0 (W.setCell ⟨b, i, none⟩ v) := Below.setCell h (p := ⟨b, i, none⟩) hz v
theorem blk_step4 {w1 : World} {b : Nat} (h : Blk w1 b #[Value.int .i64 0, Value.int .i64 0, Value.int .i64 0, Value.int .i64 0] 36 ∨ Blk w1 b #[Value.int .i64 0, Value.int .i64 0, Value.int .i64 0, Value.int .i64 0] 36) : Blk w1 b #[Value.int .i64 0, Value.int .i64 0, Value.int .i64 0, Value.int .i64 0] 36 := h.elim id id
theorem Of1_ok (F : FuncId) (k s page : Int) (ok : Bool) (c p : Int) (pb gb : Nat) (hs : slotI s = true) (hp : inI 65536 page = true)
    (eg : ∀ args w, (callFunc F args).run Try.prog w = .ok (.enter F args) w)
    (hK : ∀ W, Calls Try.prog F #[.agg #[.int .i64 s], .int .i64 page, .int .i64 (page - 4096 * (s + 1))] W (SitePost W ok c p))
    (w : World) (hpb : w.cell? ⟨pb, 0, none⟩ = some (.int .i64 s)) (hgb : w.cell? ⟨gb, 0, none⟩ = some (.int .i64 page)) :
    Calls Try.prog 32 #[.agg #[.int .i64 k, .func (.func F) #[] #[]], .pointer (some ⟨pb, 0, none⟩), .pointer (some ⟨gb, 0, none⟩)] w (AskPost w k s ok c p) := by
  have hs' : 0 ≤ s ∧ s < 4 := by simpa [slotI] using hs
  have hp' : 0 ≤ page ∧ page < 65536 := by simpa [inI] using hp
  have hsub : IntKind.i64.wrap (page - 4096 * (s + 1)) = page - 4096 * (s + 1) := IntWalk.i64_in _ (by omega)
  have HK := Lib.hid hK
  clear hK
  go_enter Try.func32, Try.ntmps32
  go_wp2_with fail
  obtain ⟨w0, hw0⟩ : ∃ w0, (w.alloc (Obj.cells #[Value.int .i64 k, .func (.func F) #[] #[]] 62)).alloc (Obj.cells #[Value.int .i64 0, Value.int .i64 0, Value.int .i64 0, Value.int .i64 0] 36) = w0 := ⟨_, rfl⟩
  have hX : Blk w0 w.heap.size #[Value.int .i64 k, .func (.func F) #[] #[]] 62 := by rw [← hw0]; exact (Blk.new w _ _).alloc _
  have hY : Blk w0 (w.heap.size + 1) #[Value.int .i64 0, Value.int .i64 0, Value.int .i64 0, Value.int .i64 0] 36 := by rw [← hw0]; exact Blk.newAt _ _ _ (by simp)
  have hw : Below w.heap.size w w0 := by rw [← hw0]; exact ((Below.refl _ w).alloc (Nat.le_refl _) _).alloc (by simp) _
  have x0 : w0.cell? ⟨w.heap.size, 0, none⟩ = some (.int .i64 k) := hX.cell 0 rfl
  have x1 : w0.cell? ⟨w.heap.size, 1, none⟩ = some (.func (.func F) #[] #[]) := hX.cell 1 rfl
  have x2 : w0.cell? ⟨pb, 0, none⟩ = some (.int .i64 s) := (hw.cell (p := ⟨pb, 0, none⟩) (World.block_lt_of_cell? w _ hpb)).trans hpb
  have x3 : w0.cell? ⟨gb, 0, none⟩ = some (.int .i64 page) := (hw.cell (p := ⟨gb, 0, none⟩) (World.block_lt_of_cell? w _ hgb)).trans hgb
  rw [hw0]
  have hall : ∀ W, Old w0 W → W.cell? ⟨w.heap.size, 0, none⟩ = some (.int .i64 k) ∧ Old w0 W ∧ W.cell? ⟨w.heap.size, 1, none⟩ = some (.func (.func F) #[] #[]) ∧ W.cell? ⟨pb, 0, none⟩ = some (.int .i64 s) ∧ W.cell? ⟨gb, 0, none⟩ = some (.int .i64 page) :=
    fun W h => ⟨h.cell x0, h, h.cell x1, h.cell x2, h.cell x3⟩
  have h0 : Old w0 w0.drew := (Below.refl _ w0).drew
  go_region_held3 (fun W => W.cell? ⟨w.heap.size, 0, none⟩ = some (.int .i64 k) ∧ Old w0 W ∧ W.cell? ⟨w.heap.size, 1, none⟩ = some (.func (.func F) #[] #[]) ∧ W.cell? ⟨pb, 0, none⟩ = some (.int .i64 s) ∧ W.cell? ⟨gb, 0, none⟩ = some (.int .i64 page))
    (first
    | exact hall _ h0
    | exact hall _ (Old.step hb rfl (And.left (And.right (by assumption))))
    | exact hall _ (Old.made _ (And.left (And.right (by assumption))))
    | exact hall _ (Old.remade _ (by omega) (And.left (And.right (by assumption))))
    | exact hall _ (Old.set _ _ (by first | omega | (simp; omega)) (Old.set _ _ (by first | omega | (simp; omega)) (Old.set _ _ (by first | omega | (simp; omega)) (Old.set _ _ (by first | omega | (simp; omega)) (And.left (And.right (by assumption))))))))
    (first
      | (go_at_call 25; refine (base_calls s hs _).mono ?_; rintro e w1 ⟨rfl, hb⟩; have hz : w0.heap.size ≤ w1.heap.size := (by first | exact hb.size | (have := hb.size; (try simp at this); omega)); try (first | have hN := alloc_then hb rfl | have hN := alloc_then' hb rfl))
      | (go_simp; refine (HK.out _).mono ?_; rintro e w1 ⟨c', p', rfl, hcp, hb⟩; have hz : w0.heap.size ≤ w1.heap.size := (by have := hb.size; (try simp at this); omega); try (have hN := blk_step4 (by first | exact .inl (alloc_then hb rfl) | exact .inr (blk_step hb rfl (by assumption))); have c0 := hN.cell 0 rfl; have c1 := hN.cell 1 rfl; have c2 := hN.cell 2 rfl; have c3 := hN.cell 3 rfl; have f0 := hN.frozen 0; have f1 := hN.frozen 1; have f2 := hN.frozen 2; have f3 := hN.frozen 3)))
  all_goals (
    rename_i hHeld
    have hO := hHeld.2.1
    clear hHeld hall h0
    first
      | (have hB : Blk ((((w1.setCell ⟨w0.heap.size, 0, none⟩ (.int .i64 0)).setCell ⟨w0.heap.size, 1, none⟩ (.int .i64 0)).setCell ⟨w0.heap.size, 2, none⟩ (.int .i64 c')).setCell ⟨w0.heap.size, 3, none⟩ (.int .i64 p')) w0.heap.size #[Value.int .i64 0, Value.int .i64 0, Value.int .i64 c', Value.int .i64 p'] 36 := (((hN.set 0 _).set 1 _).set 2 _).set 3 _
         generalize hWe : ((((w1.setCell ⟨w0.heap.size, 0, none⟩ (.int .i64 0)).setCell ⟨w0.heap.size, 1, none⟩ (.int .i64 0)).setCell ⟨w0.heap.size, 2, none⟩ (.int .i64 c')).setCell ⟨w0.heap.size, 3, none⟩ (.int .i64 p')) = W at hO hB ⊢
         obtain ⟨b, hb1⟩ : ∃ b, b = w0.heap.size := ⟨_, rfl⟩
         have hbw : w0.heap.size ≤ b := by omega
         rw [← hb1] at hB ⊢
         clear hb1)
      | (rename_i wx hbx hzx
         have hB : Blk ((((w1.setCell ⟨wx.heap.size, 0, none⟩ (.int .i64 0)).setCell ⟨wx.heap.size, 1, none⟩ (.int .i64 0)).setCell ⟨wx.heap.size, 2, none⟩ (.int .i64 c')).setCell ⟨wx.heap.size, 3, none⟩ (.int .i64 p')) wx.heap.size #[Value.int .i64 0, Value.int .i64 0, Value.int .i64 c', Value.int .i64 p'] 36 := (((hN.set 0 _).set 1 _).set 2 _).set 3 _
         generalize hWe : ((((w1.setCell ⟨wx.heap.size, 0, none⟩ (.int .i64 0)).setCell ⟨wx.heap.size, 1, none⟩ (.int .i64 0)).setCell ⟨wx.heap.size, 2, none⟩ (.int .i64 c')).setCell ⟨wx.heap.size, 3, none⟩ (.int .i64 p')) = W at hO hB ⊢
         obtain ⟨b, hb1⟩ : ∃ b, b = wx.heap.size := ⟨_, rfl⟩
         have hbw : w0.heap.size ≤ b := by omega
         rw [← hb1] at hB ⊢
         clear hb1)
      | (have hbw : w0.heap.size ≤ w1.heap.size := hz
         have hB := Blk.new w1 #[Value.int .i64 0, Value.int .i64 0, Value.int .i64 c', Value.int .i64 p'] 36
         generalize hWe : w1.alloc (Obj.cells #[Value.int .i64 0, Value.int .i64 0, Value.int .i64 c', Value.int .i64 p'] 36) = W at hO hB ⊢
         generalize hbe : w1.heap.size = b at hbw hB ⊢)
    try clear c0 c1 c2 c3 f0 f1 f2 f3
    have hz1 : w.heap.size + 2 ≤ w0.heap.size := by rw [← hw0]; simp
    have hpl : pb < w.heap.size := World.block_lt_of_cell? w _ hpb
    have y0 := hO.cell x0
    have y1 := hO.cell x2
    have b0 := hB.cell 0 rfl
    have b1 := hB.cell 1 rfl
    have b2 := hB.cell 2 rfl
    have b3 := hB.cell 3 rfl
    have f0 := hB.frozen 0
    have f1 := hB.frozen 1
    go_wp2_with fail
    go_region
    have hB2 : Blk (((W.setCell ⟨b, 0, none⟩ (.int .i64 k)).setCell ⟨b, 1, none⟩ (.int .i64 s)).drew) b #[Value.int .i64 k, .int .i64 s, .int .i64 c', .int .i64 p'] 36 := (((hB.set 0 (.int .i64 k)).set 1 (.int .i64 s)).drewN 1)
    have hY2 : Blk (((W.setCell ⟨b, 0, none⟩ (.int .i64 k)).setCell ⟨b, 1, none⟩ (.int .i64 s)).drew) (w.heap.size + 1) #[Value.int .i64 0, Value.int .i64 0, Value.int .i64 0, Value.int .i64 0] 36 := ((((hY.below hO hY.lt).setOther ⟨b, 0, none⟩ (.int .i64 k) (by simp; omega)).setOther ⟨b, 1, none⟩ (.int .i64 s) (by simp; omega)).drewN 1)
    have hO2 : Old w0 (((W.setCell ⟨b, 0, none⟩ (.int .i64 k)).setCell ⟨b, 1, none⟩ (.int .i64 s)).drew) := Below.drew ((hO.set 0 _ hbw).set 1 _ hbw)
    generalize hW2 : ((W.setCell ⟨b, 0, none⟩ (.int .i64 k)).setCell ⟨b, 1, none⟩ (.int .i64 s)).drew = W2 at *
    clear hW2 b0 b1 b2 b3 f0 f1 y0 y1 hB hO x0 x1 x2 x3 hX hpb hgb
    have e0 : W2.cell? ⟨b, 0, none⟩ = some (.int .i64 k) := hB2.cell 0 rfl
    have e1 : W2.cell? ⟨b, 1, none⟩ = some (.int .i64 s) := hB2.cell 1 rfl
    have e2 : W2.cell? ⟨b, 2, none⟩ = some (.int .i64 c') := hB2.cell 2 rfl
    have e3 : W2.cell? ⟨b, 3, none⟩ = some (.int .i64 p') := hB2.cell 3 rfl
    have g0 : W2.cell? ⟨w.heap.size + 1, 0, none⟩ = some (.int .i64 0) := hY2.cell 0 rfl
    have g1 : W2.cell? ⟨w.heap.size + 1, 1, none⟩ = some (.int .i64 0) := hY2.cell 1 rfl
    have g2 : W2.cell? ⟨w.heap.size + 1, 2, none⟩ = some (.int .i64 0) := hY2.cell 2 rfl
    have g3 : W2.cell? ⟨w.heap.size + 1, 3, none⟩ = some (.int .i64 0) := hY2.cell 3 rfl
    have f0 := hY2.frozen 0
    have f1 := hY2.frozen 1
    have f2 := hY2.frozen 2
    have f3 := hY2.frozen 3
    go_wp2_with fail
    have hYf := (((hY2.set 0 (.int .i64 k)).set 1 (.int .i64 s)).set 2 (.int .i64 c')).set 3 (.int .i64 p')
    have hBel : Below w.heap.size w ((((W2.setCell ⟨w.heap.size + 1, 0, none⟩ (.int .i64 k)).setCell ⟨w.heap.size + 1, 1, none⟩ (.int .i64 s)).setCell ⟨w.heap.size + 1, 2, none⟩ (.int .i64 c')).setCell ⟨w.heap.size + 1, 3, none⟩ (.int .i64 p')) :=
      ((((hw.trans (Below.mono hO2 (by omega))).setCell (p := ⟨w.heap.size + 1, 0, none⟩) (by simp) _).setCell (p := ⟨w.heap.size + 1, 1, none⟩) (by simp) _).setCell (p := ⟨w.heap.size + 1, 2, none⟩) (by simp) _).setCell (p := ⟨w.heap.size + 1, 3, none⟩) (by simp) _
    refine post_blk4 (x0 := .int .i64 k) (x1 := .int .i64 s) (x2 := .int .i64 c') (x3 := .int .i64 p') hYf ?_
    intro W' hW d0 d1 d2 d3
    rw [← hW] at hBel
    refine bodyPost_ret (v := .tuple #[.agg #[.int .i64 k, .int .i64 s, .int .i64 c', .int .i64 p'], .bool ok]) ?_ rfl ⟨c', p', rfl, hcp, hBel⟩
    simp [results, Try.results32, go_sem, d0, d1, d2, d3])
end Go.Proofs.Ytcgdipkmcgionaa
